/- Contracts of functions of this translation, and what they come to: the texts that the laws of this seat lean on, one behind the other. -/
import Derived.Shelf.Strings.BuilderK
import Derived.Test.YtnaimienfgpgmaaDoorProg
import Derived.WalkKit
import Derived.BigCall
import Derived.Below
import Derived.Lib.Strings
import Derived.Lib.Hide
import Derived.Lib.ConvBytes
import Derived.Laws.IdiomStrings
import Derived.Lib.OthersKept
import Derived.WalkSpells
import Derived.WalkLawsBesides
import Derived.Deep.QuietTactic
import Derived.Shelf.Strings.Builder1
import Derived.Shelf.Strings.Builder2
import Derived.Shelf.Small.Strs
import Derived.Shelf.Strings.BuilderF
import Derived.Shelf.Utf8.RuneCount
import Derived.Shelf.Strings.Search1
import Derived.Shelf.Strings.Search2
import Derived.Shelf.Strings.Search3
import Derived.Shelf.Strings.Count
import Derived.Shelf.LaysM
import Derived.Shelf.Strings.Shaped
import Derived.Shelf.Strings.Prefix
import Derived.Shelf.Strings.Split
import Derived.Shelf.Strings.Replace
import Derived.Shelf.Strings.SplitShaped
import Derived.Shelf.Unicode.Decode
import Derived.Shelf.Strings.RuneCount
import Derived.Shelf.Strings.Explode
import Derived.Shelf.Unicode.DecodeSlow
import Derived.Shelf.Unicode.DecodeAny
import Derived.BigQuiet
import Derived.LoopTactic
import Derived.Outline
import Derived.OwnWalk
import Derived.Laws.OwnMore
import Derived.Lib.Bytealg
import Derived.Deep.LoopGhost
import Derived.Lib.DecodeN
import Derived.Laws.RangeAny
import Derived.Laws.BytesArg
import Derived.Deep.Draws
import Derived.Deep.AppendLies
import Derived.Maps.AppendAt
import Derived.Laws.MakeOwn
import Derived.Deep.OwnRows
import Derived.Tactics
import Derived.Laws.Slices
import Derived.KernelRfl
import Derived.RowKit3
import Derived.WideLaws
import Derived.Deep.DeepCutAuto
import Derived.Deep.CutBlock
import Derived.Deep.RegionHeld3
import Derived.Laws.Rows
import Derived.Lib.AppendStr
import Derived.ArgAppend
import Derived.Laws.IdiomCopy
import Derived.OrdersHeld
import Derived.Laws.BitsLemmas
import Derived.RowKit
import Derived.Test.YtnaimienfgpgmaaDoorWWords
import Derived.Test.YtnaimienfgpgmaaDoorWLast
import Derived.Test.YtnaimienfgpgmaaDoorWTab
import Derived.Test.YtnaimienfgpgmaaDoorWFour
import Derived.Test.YtnaimienfgpgmaaDoorWQPut
import Derived.Test.YtnaimienfgpgmaaDoorWApart
import Derived.Test.YtnaimienfgpgmaaDoorWArr
import Derived.Test.YtnaimienfgpgmaaDoorWZeros
import Derived.Test.YtnaimienfgpgmaaDoorWFoot
import Derived.Test.YtnaimienfgpgmaaDoorWKept
import Derived.Test.YtnaimienfgpgmaaDoorWShare
import Derived.Test.YtnaimienfgpgmaaDoorWN
import Derived.Test.YtnaimienfgpgmaaDoorWFootNe
import Derived.Test.YtnaimienfgpgmaaDoorWAt
import Derived.Test.YtnaimienfgpgmaaDoorWEqStruct
import Derived.Test.YtnaimienfgpgmaaDoorWRepsOne
import Derived.Test.YtnaimienfgpgmaaDoorWInv
import Derived.Test.YtnaimienfgpgmaaDoorWInvWords
import Derived.Test.YtnaimienfgpgmaaDoorWGuard
import Derived.Test.YtnaimienfgpgmaaDoorWNEv
import Derived.Test.YtnaimienfgpgmaaDoorWMore

/- The contracts of strings.Builder's copyCheck, WriteByte, WriteString and String at this translation: what each leaves of a builder that the call itself has made; no condition but Go's own limit on lengths (2^47 bytes). -/
set_option linter.unusedVariables false
set_option linter.unusedSimpArgs false
namespace Go.Proofs.YtnaimienfgpgmaaDoor.Bld
open Go.RowKit Go.Shelf

def ren : Go.Shelf.Ren := ⟨fun | 169 => 41 | n => n, fun | 70 => 50 | 9 => 9 | 0 => 0 | 72 => 52 | 37 => 49 | 127 => 76 | 3 => 3 | 5 => 5 | n => n, fun | n => n⟩
theorem lays169 : Go.Proofs.Lays.n169 Tryd.prog ren := {
  mixed := by kernel_rfl
  f169 := Tryd.func41.trans (congrArg some (by kernel_rfl))
  t0 := Tryd.underlying0
  a0 := Tryd.isAgg0
  z0 := Tryd.sizeOf0
  v0 := Tryd.zeroValue0
  t3 := Tryd.underlying3
  a3 := Tryd.isAgg3
  z3 := Tryd.sizeOf3
  v3 := Tryd.zeroValue3
  t9 := Tryd.underlying9
  a9 := Tryd.isAgg9
  z9 := Tryd.sizeOf9
  v9 := Tryd.zeroValue9
  t37 := Tryd.underlying49
  a37 := Tryd.isAgg49
  z37 := Tryd.sizeOf49
  v37 := Tryd.zeroValue49
  t70 := Tryd.underlying50
  a70 := Tryd.isAgg50
  z70 := Tryd.sizeOf50
  v70 := Tryd.zeroValue50
  t72 := Tryd.underlying52
  a72 := Tryd.isAgg52
  z72 := Tryd.sizeOf52
  v72 := Tryd.zeroValue52
  t127 := Tryd.underlying76
  a127 := Tryd.isAgg76
  z127 := Tryd.sizeOf76
  v127 := Tryd.zeroValue76 }
theorem extra : Builder.Extra Tryd.prog ren := {
  sizeBuilder := by kernel_rfl
  liesBuilder := by kernel_rfl
  t5 := Tryd.underlying5
  a5 := Tryd.isAgg5
  z5 := Tryd.sizeOf5
  v5 := Tryd.zeroValue5
  infoByte := by kernel_rfl
  cellsByte := by kernel_rfl
  sizeByte := by kernel_rfl
  neB5 := by decide }

/-- A builder of the call's own, in block b: its bytes. -/
abbrev Is (B b : Nat) (bs : List Value) (w : World) : Prop := Lib.IsBuilderF 52 5 B b bs w

theorem Is.at_below {B b : Nat} {p : Value} {bs : List Value} {w w' : World} (h : Lib.BuilderAtF 52 5 B b p bs w) (hb : Below w.heap.size w w') : Lib.BuilderAtF 52 5 B b p bs w' := by
  have hlt := h.lt
  obtain ⟨hB, v, hbk, hown, hne⟩ := h
  exact ⟨hB, v, (hb.block b hlt).trans hbk, hown.kept (row := none) ⟨hb.os, hb.tape, hb.output, hb.size, fun i hi _ => hb.block i hi⟩ (by cases v.ownBlock <;> simp), hne⟩
/-- What the call makes beside it leaves a builder as it is. -/
theorem Is.below {B b : Nat} {bs : List Value} {w w' : World} (h : Is B b bs w) (hb : Below w.heap.size w w') : Is B b bs w' :=
  h.imp (fun x => Is.at_below x hb) (fun x => Is.at_below x hb)

theorem String_any (B b : Nat) (l : List UInt8) (w : World) (h : Is B b (Lib.byteCells l) w) (hBw : B ≤ w.heap.size) :
    Calls Tryd.prog 41 #[.pointer (some ⟨b, 0, none⟩)] w fun e w' => e = .returned (.string ⟨l.toArray⟩) ∧ (Is B b (Lib.byteCells l) w' ∧ Below B w w' ∧ Lib.OthersKept 5 (some b) w w') :=
  Any.Builder_String_any_k lays169 extra B b l w h hBw

set_option maxHeartbeats 1000000 in
set_option maxRecDepth 100000 in
theorem check_used (b : Nat) (w : World) (h0 : w.cell? ⟨b, 0, none⟩ = some (.pointer (some ⟨b, 0, none⟩))) :
    Calls Tryd.prog 58 #[.pointer (some ⟨b, 0, none⟩)] w fun e w' => e = .returned (.tuple #[]) ∧ w' = w := by
  obtain ⟨j, hj, _⟩ := Option.map_eq_some_iff.1 extra.sizeBuilder
  go_enter Tryd.func58, Tryd.ntmps58
  go_wp2
  rw [Lib.run_neq_ptr_same w _ Tryd.underlying50 hj]
  go_wp2
  go_end0
  exact ⟨rfl, rfl⟩

set_option maxHeartbeats 1000000 in
set_option maxRecDepth 100000 in
theorem check_fresh (b : Nat) (w : World) (h0 : w.cell? ⟨b, 0, none⟩ = some (.pointer none)) (hsh : w.shape? b = some (52, 2)) (hfz : w.frozen? ⟨b, 0, none⟩ = false) :
    Calls Tryd.prog 58 #[.pointer (some ⟨b, 0, none⟩)] w fun e w' => e = .returned (.tuple #[]) ∧ w' = w.setCell ⟨b, 0, none⟩ (.pointer (some ⟨b, 0, none⟩)) := by
  obtain ⟨j, hj, hjs⟩ := Option.map_eq_some_iff.1 extra.sizeBuilder
  go_enter Tryd.func58, Tryd.ntmps58
  go_wp2
  rw [Lib.run_to_unsafe w ⟨b, 0, none⟩ Tryd.underlying50 Tryd.underlying83 hj (by rw [hjs]; decide) hsh (Nat.zero_lt_succ 1)]
  simp only [Result.andThen]
  rw [Oper.upon_value]
  go_wp2
  rw [run_callFunc_extern Tryd.func71 (by kernel_rfl) (by kernel_rfl) (by kernel_rfl) (e := Extern.AbiNoEscape.same) (by kernel_rfl)]
  rw [Lib.run_noEscape]
  simp only [Result.andThen]
  rw [Oper.upon_value]
  go_wp2
  rw [Lib.run_from_unsafe w ⟨b, 0, none⟩ Tryd.underlying83 Tryd.underlying50 hj hsh extra.liesBuilder]
  simp only [Result.andThen]
  rw [Oper.upon_value]
  go_wp2
  go_end0
  exact ⟨rfl, rfl⟩

theorem check (B b : Nat) (bs : List Value) (w : World) (h : Is B b bs w) :
    Calls Tryd.prog 58 #[.pointer (some ⟨b, 0, none⟩)] w fun e w' => e = .returned (.tuple #[]) ∧ (Lib.BuilderAtF 52 5 B b (.pointer (some ⟨b, 0, none⟩)) bs w' ∧ Below B w w' ∧ Lib.OthersKept 5 (some b) w w') := by
  rcases h with h | h
  · refine (check_fresh b w h.cell0 h.shape h.frozen0).mono ?_
    rintro e w' ⟨rfl, rfl⟩
    exact ⟨rfl, h.used _, (Below.refl B w).setCell (p := ⟨b, 0, none⟩) h.1 _, (Lib.OthersKept.refl _ _ w).setCell ⟨b, 0, none⟩ rfl _⟩
  · refine (check_used b w h.cell0).mono ?_
    rintro e w' ⟨rfl, rfl⟩
    exact ⟨rfl, h, Below.refl B _, Lib.OthersKept.refl _ _ _⟩

set_option maxHeartbeats 2000000 in
set_option maxRecDepth 100000 in
theorem WriteByte (B b : Nat) (bs : List Value) (c : Int) (w : World) (h : Is B b bs w) (hlen : bs.length + 1 ≤ 140737488355328) (hBw : B ≤ w.heap.size) :
    Calls Tryd.prog 40 #[.pointer (some ⟨b, 0, none⟩), .int .u8 c] w fun e w' => e = .returned .nilIface ∧ (Is B b (bs ++ [.int .u8 c]) w' ∧ Below B w w' ∧ Lib.OthersKept 5 (some b) w w') := by
  obtain ⟨i0, hi, hz0, hz1, hz2⟩ := info_parts extra.infoByte
  go_enter Tryd.func40, Tryd.ntmps40
  go_wp2_with (go_at_call 58; refine (check B b bs _ h).mono ?_)
  rintro e w1 ⟨rfl, h1, hb1, hk1⟩
  obtain ⟨hB, v, hbk, hown, hne⟩ := h1
  have c0 : w1.cell? ⟨b, 0, none⟩ = some (.pointer (some ⟨b, 0, none⟩)) := by rw [Lib.cell_of_heap hbk]; rfl
  have c1 : w1.cell? ⟨b, 1, none⟩ = some v := by rw [Lib.cell_of_heap hbk]; rfl
  go_wp2_with (at_builtin; refine wpList_append_ownF _ rfl _ _ 49 rfl B 5 i0 (.int .u8 0) 1 1 Tryd.underlying49 hi hz0 hz1 hz2 rfl (by decide) _ _ _ rfl (hown.alloc _) ⟨w1.heap.size, 0, none⟩ 1 1 [.int .u8 c] rfl rfl ?c1 ?c2 ?c3 ?c4 ?c5 ?_)
  case c1 =>
    intro j u hj
    match j, hj with
    | 0, hj => simp at hj; subst hj; simp [Addr.add]
  case c2 => intro u hu; simp at hu; subst hu; rfl
  case c3 => unfold maxLen; omega
  case c4 => omega
  case c5 => have := hb1.size; simp; omega
  intro v' w2 hown' hgrow _
  have hlt : b < w1.heap.size := by
    rcases Nat.lt_or_ge b w1.heap.size with h' | h'
    · exact h'
    · simp [Array.getElem?_eq_none h'] at hbk
  have hb2 : w2.heap[b]? = some (.cells #[.pointer (some ⟨b, 0, none⟩), v] 52 (0, 0)) := by
    rw [hgrow.block b (by simp; omega) (fun e => hne e.symm), Lib.alloc_old w1 _ b hlt]
    exact hbk
  have d0 : w2.cell? ⟨b, 0, none⟩ = some (.pointer (some ⟨b, 0, none⟩)) := by rw [Lib.cell_of_heap hb2]; rfl
  have d1 : w2.cell? ⟨b, 1, none⟩ = some v := by rw [Lib.cell_of_heap hb2]; rfl
  have f1 : w2.frozen? ⟨b, 1, none⟩ = false := Lib.frozen_of_heap hb2 1
  obtain ⟨g, cap, rfl⟩ : ∃ g cap, v' = .slice (some ⟨g, 0, none⟩) (bs.length + 1) cap := by
    rcases hown'.2 with ⟨_, h0⟩ | ⟨g, cap, cur, fz, hv, _⟩
    · omega
    · exact ⟨g, cap, hv⟩
  go_wp2
  go_ret
  refine ⟨rfl, Or.inr ?_, ?_, ((hk1.alloc _).grown hgrow (Lib.ownsRowF_kind (hown.alloc _))).setCell ⟨b, 1, none⟩ rfl _⟩
  · exact Lib.BuilderAtF.put (T := 52) (e := 5) hB hb2 (bs' := bs ++ [.int .u8 c]) (by simpa using hown') extra.neB5
  · exact ((hb1.alloc (by have := hb1.size; omega) _).grown hgrow (by have := hb1.size; simp; omega) (fun k hk => (hown.lt k hk).1)).setCell (p := ⟨b, 1, none⟩) hB _

set_option maxHeartbeats 2000000 in
set_option maxRecDepth 100000 in
theorem WriteString (B b : Nat) (bs : List Value) (s : ByteArray) (w : World) (h : Is B b bs w) (hlen : bs.length + s.size ≤ 140737488355328) (hBw : B ≤ w.heap.size) :
    Calls Tryd.prog 38 #[.pointer (some ⟨b, 0, none⟩), .string s] w fun e w' => e = .returned (.tuple #[.int .i64 s.size, .nilIface]) ∧ (Is B b (bs ++ Lib.strCells s) w' ∧ Below B w w' ∧ Lib.OthersKept 5 (some b) w w') := by
  obtain ⟨i0, hi, hz0, hz1, hz2⟩ := info_parts extra.infoByte
  go_enter Tryd.func38, Tryd.ntmps38
  go_wp2_with (go_at_call 58; refine (check B b bs _ h).mono ?_)
  rintro e w1 ⟨rfl, h1, hb1, hk1⟩
  obtain ⟨hB, v, hbk, hown, hne⟩ := h1
  have c0 : w1.cell? ⟨b, 0, none⟩ = some (.pointer (some ⟨b, 0, none⟩)) := by rw [Lib.cell_of_heap hbk]; rfl
  have c1 : w1.cell? ⟨b, 1, none⟩ = some v := by rw [Lib.cell_of_heap hbk]; rfl
  go_wp2_with (at_builtin; refine Lib.wpList_append_own_stringF _ rfl _ _ 49 9 rfl B 5 i0 Tryd.underlying49 Tryd.underlying9 hi hz0 hz1 hz2 _ _ _ rfl hown s rfl ?c3 ?c4 ?c5 ?_)
  case c3 => unfold maxLen; omega
  case c4 => omega
  case c5 => have := hb1.size; omega
  intro v' w2 hown' hgrow _
  have hlt : b < w1.heap.size := by
    rcases Nat.lt_or_ge b w1.heap.size with h' | h'
    · exact h'
    · simp [Array.getElem?_eq_none h'] at hbk
  have hb2 : w2.heap[b]? = some (.cells #[.pointer (some ⟨b, 0, none⟩), v] 52 (0, 0)) := by
    rw [hgrow.block b hlt (fun e => hne e.symm)]
    exact hbk
  have d0 : w2.cell? ⟨b, 0, none⟩ = some (.pointer (some ⟨b, 0, none⟩)) := by rw [Lib.cell_of_heap hb2]; rfl
  have d1 : w2.cell? ⟨b, 1, none⟩ = some v := by rw [Lib.cell_of_heap hb2]; rfl
  have f1 : w2.frozen? ⟨b, 1, none⟩ = false := Lib.frozen_of_heap hb2 1
  obtain ⟨ao, n', cap, rfl⟩ : ∃ ao n' cap, v' = .slice ao n' cap := by
    rcases hown'.2 with ⟨hv, _⟩ | ⟨g, cap, cur, fz, hv, _⟩
    · exact ⟨_, _, _, hv⟩
    · exact ⟨_, _, _, hv⟩
  go_wp2
  go_ret2
  refine ⟨rfl, Or.inr ?_, ?_, (hk1.grown hgrow (Lib.ownsRowF_kind hown)).setCell ⟨b, 1, none⟩ rfl _⟩
  · exact Lib.BuilderAtF.put (T := 52) (e := 5) hB hb2 (bs' := bs ++ Lib.strCells s) (by simpa [Lib.strCells_length] using hown') extra.neB5
  · exact (hb1.grown hgrow (by have := hb1.size; omega) (fun k hk => (hown.lt k hk).1)).setCell (p := ⟨b, 1, none⟩) hB _

/-- The writers, over lists of bytes. -/
theorem put_str (B b : Nat) (acc l : List UInt8) (s : ByteArray) (hs : s.data.toList = l) (w : World) (h : Is B b (Lib.byteCells acc) w) (hlen : acc.length + l.length ≤ 140737488355328) (hBw : B ≤ w.heap.size) :
    Calls Tryd.prog 38 #[.pointer (some ⟨b, 0, none⟩), .string s] w fun e w' => e = .returned (.tuple #[.int .i64 s.size, .nilIface]) ∧ Is B b (Lib.byteCells (acc ++ l)) w' ∧ Below B w w' ∧ Lib.OthersKept 5 (some b) w w' := by
  subst hs
  refine (WriteString B b _ s w h (by rw [Lib.byteCells_length]; rw [Array.length_toList] at hlen; exact hlen) hBw).mono ?_
  rintro e w' ⟨rfl, h1, h2, h3⟩
  exact ⟨rfl, by rw [Lib.byteCells_append, ← Lib.strCells_eq]; exact h1, h2, h3⟩
theorem put_byte (B b : Nat) (acc : List UInt8) (c : UInt8) (n : Int) (hn : n = (c.toNat : Int)) (w : World) (h : Is B b (Lib.byteCells acc) w) (hlen : acc.length + 1 ≤ 140737488355328) (hBw : B ≤ w.heap.size) :
    Calls Tryd.prog 40 #[.pointer (some ⟨b, 0, none⟩), .int .u8 n] w fun e w' => e = .returned .nilIface ∧ Is B b (Lib.byteCells (acc ++ [c])) w' ∧ Below B w w' ∧ Lib.OthersKept 5 (some b) w w' := by
  subst hn
  refine (WriteByte B b _ _ w h (by rw [Lib.byteCells_length]; exact hlen) hBw).mono ?_
  rintro e w' ⟨rfl, h1, h2, h3⟩
  exact ⟨rfl, by rw [Lib.byteCells_append]; exact h1, h2, h3⟩
theorem text (B b : Nat) (acc : List UInt8) (w : World) (h : Is B b (Lib.byteCells acc) w) (hBw : B ≤ w.heap.size) :
    Calls Tryd.prog 41 #[.pointer (some ⟨b, 0, none⟩)] w fun e w' => e = .returned (.string ⟨acc.toArray⟩) ∧ Below B w w' :=
  (String_any B b acc w h hBw).mono fun _ _ ⟨h1, _, h2, _⟩ => ⟨h1, h2⟩
theorem fresh (w : World) : Is w.heap.size w.heap.size (Lib.byteCells []) (w.alloc (.cells #[.pointer none, .slice none 0 0] 52)) :=
  Lib.IsBuilderF.of (Lib.fresh_isBuilder _ _ w)

end Go.Proofs.YtnaimienfgpgmaaDoor.Bld

/- Small lemmas for walks: bytes, cuts of strings, worlds that have only been drawn from; an array's element. -/
set_option linter.unusedVariables false
set_option linter.unusedSimpArgs false
namespace Go.Proofs.YtnaimienfgpgmaaDoor.U
open Go.RowKit

theorem beq_u8 (x c : UInt8) : ((x.toNat : Int) == (c.toNat : Int)) = (x == c) := by
  rw [Bool.eq_iff_iff]; simp only [beq_iff_eq]
  rw [← UInt8.toNat_inj]; omega
theorem u8_at (s : ByteArray) (k : Nat) (h : k < s.size) : s.data.toList.drop k = s[k] :: s.data.toList.drop (k + 1) := by
  rw [List.drop_eq_getElem_cons (by simpa using h)]; rfl
theorem len_data (s : ByteArray) : s.data.toList.length = s.size := by rw [Array.length_toList]; rfl
theorem drop_data (s : ByteArray) (k : Nat) : (s.extract k s.size).data.toList = s.data.toList.drop k := by
  rw [Lib.extract_data, ← len_data s, ← List.drop_take, List.take_length]
theorem take_data (s : ByteArray) (k : Nat) : (s.extract 0 k).data.toList = s.data.toList.take k := by
  rw [Lib.extract_data]; simp
theorem one_data (s : ByteArray) (k : Nat) (h : k < s.size) : (s.extract k (k + 1)).data.toList = [s[k]] := by
  rw [Lib.extract_data, u8_at s k h, show k + 1 - k = 1 by omega]; rfl
theorem get_data (s : ByteArray) (k : Nat) (h : k < s.size) : s.data.toList[k]'(by rw [len_data]; exact h) = s[k] := rfl
theorem append_data (a b : ByteArray) : (a ++ b).data.toList = a.data.toList ++ b.data.toList := by simp
theorem mk_data (s : ByteArray) (l : List UInt8) (h : s.data.toList = l) : s = ⟨l.toArray⟩ := by subst h; rfl
theorem isEmpty_false (s : ByteArray) (h : 0 < s.size) : s.toList.isEmpty = false := by
  rw [List.isEmpty_eq_false_iff]; intro hn
  have : s.toList.length = s.size := by rw [Lib.toList_data]; exact len_data s
  rw [hn] at this; simp at this; omega
theorem toList_nil (s : ByteArray) (h : s.size = 0) : s.toList = [] := List.eq_nil_of_length_eq_zero (by rw [Lib.toList_data, len_data]; exact h)
theorem below_drewN {B : Nat} {w W : World} (h : Below B w W) (n : Nat) : Below B w (W.drewN n) := ⟨h.os, h.tape, h.output, h.size, h.block⟩
theorem below_then {w w1 w2 : World} (h : Below w.heap.size w w1) (k : Below w1.heap.size w1 w2) : Below w.heap.size w w2 := h.trans (k.mono h.size)
/-- An array's element at an index that is a variable: its cells are of one word. -/
theorem run_index_arr {P : Program} {w : World} (t e : TypeId) (n : Nat) (cs : Array Value) (i : Nat) (v : Value) (h : P.underlying t = some (.array n e))
    (ha : ∀ w, (isAgg e).run P w = .ok false w) (hz : ∀ w, (Go.sizeOf e).run P w = .ok 1 w) (hi : i < n) (hv : cs[i]? = some v) :
    (Instr.index t (.agg cs) (.int .i64 (i : Int))).run P w = .ok v w := by
  have h1 : (0 : Int) ≤ (i : Int) ∧ (i : Int) < (n : Int) := by omega
  simp [Instr.index, run_underlying h, asIntOf, go_sem, hz, part, ha, hv, hi]

/-- Block g holds these bytes at its head, and they may be written. -/
def BytesAt (g : Nat) (l : List UInt8) (w : World) : Prop := ∀ j (h : j < l.length), w.cell? ⟨g, j, none⟩ = some (.int .u8 (l[j].toNat : Int)) ∧ w.frozen? ⟨g, j, none⟩ = false
theorem BytesAt.lt {g : Nat} {l : List UInt8} {w : World} (h : BytesAt g l w) (hl : 0 < l.length) : g < w.heap.size := World.block_lt_of_cell? w ⟨g, 0, none⟩ (h 0 hl).1
theorem BytesAt.new (w : World) (s : ByteArray) : BytesAt w.heap.size s.data.toList (Lib.bytesWorld w 5 s) := by
  intro j h
  have h' : j < s.size := by rw [len_data] at h; exact h
  constructor
  · rw [Lib.bytesWorld_cell w _ s j h', List.getD_eq_getElem?_getD, List.getElem?_eq_getElem h]; rfl
  · simp [World.frozen?, Lib.bytesWorld_at_new]
    intro h1
    rw [Lib.bytesCells] at h1
    simp at h1
    have : s.data.size = s.size := rfl
    omega
theorem BytesAt.set {g : Nat} {l : List UInt8} {w : World} (h : BytesAt g l w) (k : Nat) (b : UInt8) (v : Value) (hv : v = .int .u8 (b.toNat : Int)) : BytesAt g (l.set k b) (w.setCell ⟨g, k, none⟩ v) := by
  intro j hj
  rw [List.length_set] at hj
  obtain ⟨h1, h2⟩ := h j hj
  refine ⟨?_, by rw [World.frozen?_setCell]; exact h2⟩
  by_cases e : k = j
  · subst e
    rw [World.cell?_setCell_same w _ _ h1, hv, List.getElem_set_self]
  · rw [World.cell?_setCell_other w _ _ _ (by intro hh; injection hh with _ h3; exact e h3), List.getElem_set_ne e]; exact h1
theorem BytesAt.below {g : Nat} {l : List UInt8} {w w' : World} (h : BytesAt g l w) (hb : Below w.heap.size w w') : BytesAt g l w' := by
  intro j hj
  obtain ⟨h1, h2⟩ := h j hj
  have hlt := World.block_lt_of_cell? w ⟨g, j, none⟩ h1
  exact ⟨(hb.cell (p := ⟨g, j, none⟩) hlt).trans h1, (hb.frozen (p := ⟨g, j, none⟩) hlt).trans h2⟩
theorem BytesAt.text {P : Program} {g : Nat} {l : List UInt8} {w : World} (h : BytesAt g l w) (src dst e : TypeId) (cap : Nat) (hs : P.underlying src = some (.slice e)) (he : P.underlying e = some (.int .u8)) (hd : P.underlying dst = some .string) :
    (convert src dst (.slice (some ⟨g, 0, none⟩) l.length cap)).run P w = .ok (.string ⟨l.toArray⟩) w := by
  refine run_convert_bytes_back w src dst e ⟨g, 0, none⟩ cap l hs he hd fun j hj => ?_
  have ha : (⟨g, 0, none⟩ : Addr).add j = ⟨g, j, none⟩ := by unfold Addr.add; split <;> simp_all
  rw [ha]; exact (h j hj).1
theorem below_bytesWorld (w : World) (e : TypeId) (s : ByteArray) : Below w.heap.size w (Lib.bytesWorld w e s) := by
  refine ⟨?_, ?_, ?_, by rw [Lib.bytesWorld_size]; omega, fun k hk => Lib.bytesWorld_at_old w e s k hk⟩
  all_goals
    unfold Lib.bytesWorld World.freeze
    split <;> rfl
/-- Behind a contract that ends in Below: all old cells and marks read as before. -/
theorem bcell {W w1 : World} (hb : Below W.heap.size W w1) : (∀ b o, b < W.heap.size → w1.cell? ⟨b, o, none⟩ = W.cell? ⟨b, o, none⟩) ∧ (∀ b o, b < W.heap.size → w1.frozen? ⟨b, o, none⟩ = W.frozen? ⟨b, o, none⟩) :=
  ⟨fun b o h => hb.cell (p := ⟨b, o, none⟩) h, fun b o h => hb.frozen (p := ⟨b, o, none⟩) h⟩

/-- Block g holds these cells, of type T, none of them frozen. -/
def At (g : Nat) (T : TypeId) (cs : Array Value) (w : World) : Prop := w.heap[g]? = some (.cells cs T (0, 0))
theorem At.new (w : World) (T : TypeId) (cs : Array Value) : At w.heap.size T cs (w.alloc (.cells cs T)) := heap_alloc_new w _
theorem At.lt {g : Nat} {T : TypeId} {cs : Array Value} {w : World} (h : At g T cs w) : g < w.heap.size := by
  rcases Nat.lt_or_ge g w.heap.size with h' | h'
  · exact h'
  · unfold At at h; simp [Array.getElem?_eq_none h'] at h
theorem At.cell {g : Nat} {T : TypeId} {cs : Array Value} {w : World} (h : At g T cs w) (i : Nat) (v : Value) (hv : cs[i]? = some v) : w.cell? ⟨g, i, none⟩ = some v := by
  unfold At at h; simp [World.cell?, h, hv]
theorem At.free {g : Nat} {T : TypeId} {cs : Array Value} {w : World} (h : At g T cs w) (i : Nat) : w.frozen? ⟨g, i, none⟩ = false := by
  unfold At at h; simp [World.frozen?, h]
theorem At.below {g : Nat} {T : TypeId} {cs : Array Value} {w w' : World} (h : At g T cs w) (hb : Below w.heap.size w w') : At g T cs w' := (hb.block g h.lt).trans h
theorem At.alloc {g : Nat} {T : TypeId} {cs : Array Value} {w : World} (h : At g T cs w) (o : Obj) : At g T cs (w.alloc o) := (Below.heap_alloc w o g h.lt).trans h
theorem At.set {g : Nat} {T : TypeId} {cs : Array Value} {w : World} (h : At g T cs w) (i : Nat) (v : Value) : At g T (cs.setIfInBounds i v) (w.setCell ⟨g, i, none⟩ v) := by
  unfold At at *
  simp [World.setCell, Array.getElem?_modify, h]
theorem At.other {g : Nat} {T : TypeId} {cs : Array Value} {w : World} (h : At g T cs w) (a : Addr) (v : Value) (hne : g ≠ a.block) : At g T cs (w.setCell a v) := by
  unfold At at *
  rw [Below.heap_setCell w a v g hne]; exact h
theorem At.drewN {g : Nat} {T : TypeId} {cs : Array Value} {w : World} (h : At g T cs w) (n : Nat) : At g T cs (w.drewN n) := h
end Go.Proofs.YtnaimienfgpgmaaDoor.U

/- The shelf contracts of library functions at this translation, in plain words: each holds for the arguments and under the conditions that it names. -/
namespace Go.Proofs
open Go.Shelf
def Tryd.lays169_ren : Go.Shelf.Ren := ⟨fun | 169 => 41 | n => n, fun | 70 => 50 | 9 => 9 | 0 => 0 | 72 => 52 | 37 => 49 | 127 => 76 | 3 => 3 | 5 => 5 | n => n, fun | n => n⟩
theorem Tryd.lays169 : Go.Proofs.Lays.n169 Tryd.prog Tryd.lays169_ren := {
  mixed := by kernel_rfl
  f169 := Tryd.func41.trans (congrArg some (by kernel_rfl))
  t0 := Tryd.underlying0
  a0 := Tryd.isAgg0
  z0 := Tryd.sizeOf0
  v0 := Tryd.zeroValue0
  t3 := Tryd.underlying3
  a3 := Tryd.isAgg3
  z3 := Tryd.sizeOf3
  v3 := Tryd.zeroValue3
  t9 := Tryd.underlying9
  a9 := Tryd.isAgg9
  z9 := Tryd.sizeOf9
  v9 := Tryd.zeroValue9
  t37 := Tryd.underlying49
  a37 := Tryd.isAgg49
  z37 := Tryd.sizeOf49
  v37 := Tryd.zeroValue49
  t70 := Tryd.underlying50
  a70 := Tryd.isAgg50
  z70 := Tryd.sizeOf50
  v70 := Tryd.zeroValue50
  t72 := Tryd.underlying52
  a72 := Tryd.isAgg52
  z72 := Tryd.sizeOf52
  v72 := Tryd.zeroValue52
  t127 := Tryd.underlying76
  a127 := Tryd.isAgg76
  z127 := Tryd.sizeOf76
  v127 := Tryd.zeroValue76 }
theorem Tryd.Builder_Extra_169 : Builder.Extra Tryd.prog Tryd.lays169_ren := {
  sizeBuilder := by kernel_rfl
  liesBuilder := by kernel_rfl
  t5 := Tryd.underlying5
  a5 := Tryd.isAgg5
  z5 := Tryd.sizeOf5
  v5 := Tryd.zeroValue5
  infoByte := by kernel_rfl
  cellsByte := by kernel_rfl
  sizeByte := by kernel_rfl
  neB5 := by decide }
open Go.RowKit in
theorem Tryd.Builder_String (B b : Nat) (l : List UInt8) (w : World) (h : Lib.IsBuilder 52 5 B b (Lib.byteCells l) w) (h0 : l ≠ []) :
    Calls Tryd.prog 41 #[.pointer (some ⟨b, 0, none⟩)] w fun e w' => e = .returned (.string ⟨l.toArray⟩) ∧ Below B w w' := Any.Builder_String Tryd.lays169 Tryd.Builder_Extra_169 B b l w h h0
open Go.RowKit in
theorem Tryd.Builder_String_empty (B b : Nat) (w : World) (h : Lib.IsBuilder 52 5 B b [] w) (hBw : B ≤ w.heap.size) :
    Calls Tryd.prog 41 #[.pointer (some ⟨b, 0, none⟩)] w fun e w' => e = .returned (.string ⟨#[]⟩) ∧ Below B w w' := Any.Builder_String_empty Tryd.lays169 Tryd.Builder_Extra_169 B b w h hBw
open Go.RowKit in
theorem Tryd.Builder_String_any (B b : Nat) (l : List UInt8) (w : World) (h : Lib.IsBuilder 52 5 B b (Lib.byteCells l) w) (hBw : B ≤ w.heap.size) :
    Calls Tryd.prog 41 #[.pointer (some ⟨b, 0, none⟩)] w fun e w' => e = .returned (.string ⟨l.toArray⟩) ∧ Below B w w' := Any.Builder_String_any Tryd.lays169 Tryd.Builder_Extra_169 B b l w h hBw
def Tryd.lays241_ren : Go.Shelf.Ren := ⟨fun | 241 => 67 | 277 => 78 | n => n, fun | 70 => 50 | 3 => 3 | 0 => 0 | 72 => 52 | 37 => 49 | 5 => 5 | n => n, fun | n => n⟩
theorem Tryd.lays241 : Go.Proofs.Lays.n241 Tryd.prog Tryd.lays241_ren := {
  mixed := by kernel_rfl
  f241 := Tryd.func67.trans (congrArg some (by kernel_rfl))
  f277 := Tryd.func78.trans (congrArg some (by kernel_rfl))
  t0 := Tryd.underlying0
  a0 := Tryd.isAgg0
  z0 := Tryd.sizeOf0
  v0 := Tryd.zeroValue0
  t3 := Tryd.underlying3
  a3 := Tryd.isAgg3
  z3 := Tryd.sizeOf3
  v3 := Tryd.zeroValue3
  t37 := Tryd.underlying49
  a37 := Tryd.isAgg49
  z37 := Tryd.sizeOf49
  v37 := Tryd.zeroValue49
  t70 := Tryd.underlying50
  a70 := Tryd.isAgg50
  z70 := Tryd.sizeOf50
  v70 := Tryd.zeroValue50
  t72 := Tryd.underlying52
  a72 := Tryd.isAgg52
  z72 := Tryd.sizeOf52
  v72 := Tryd.zeroValue52 }
theorem Tryd.Builder_Extra_241 : Builder.Extra Tryd.prog Tryd.lays241_ren := {
  sizeBuilder := by kernel_rfl
  liesBuilder := by kernel_rfl
  t5 := Tryd.underlying5
  a5 := Tryd.isAgg5
  z5 := Tryd.sizeOf5
  v5 := Tryd.zeroValue5
  infoByte := by kernel_rfl
  cellsByte := by kernel_rfl
  sizeByte := by kernel_rfl
  neB5 := by decide }
open Go.RowKit in
theorem Tryd.Builder_grow_fresh (B b n : Nat) (w : World) (hB : B ≤ b) (hbk : w.heap[b]? = some (.cells #[.pointer (some ⟨b, 0, none⟩), .slice none 0 0] 52 (0, 0))) (hBw : B ≤ w.heap.size) (hn : n ≤ 281474976710656) :
    Calls Tryd.prog 67 #[.pointer (some ⟨b, 0, none⟩), .int .i64 n] w fun e w' => e = .returned (.tuple #[]) ∧ (Lib.BuilderAt 52 5 B b (.pointer (some ⟨b, 0, none⟩)) [] w' ∧ Below B w w') := Any.Builder_grow_fresh Tryd.lays241 Tryd.Builder_Extra_241 B b n w hB hbk hBw hn
def Tryd.lays165_ren : Go.Shelf.Ren := ⟨fun | 165 => 53 | 240 => 58 | 241 => 67 | 276 => 71 | 277 => 78 | n => n, fun | 70 => 50 | 3 => 3 | 0 => 0 | 4 => 4 | 9 => 9 | 20 => 20 | 72 => 52 | 37 => 49 | 164 => 83 | 5 => 5 | n => n, fun | n => n⟩
theorem Tryd.lays165 : Go.Proofs.Lays.n165 Tryd.prog Tryd.lays165_ren := {
  mixed := by kernel_rfl
  f165 := Tryd.func53.trans (congrArg some (by kernel_rfl))
  f240 := Tryd.func58.trans (congrArg some (by kernel_rfl))
  f241 := Tryd.func67.trans (congrArg some (by kernel_rfl))
  f276 := Tryd.func71.trans (congrArg some (by kernel_rfl))
  f277 := Tryd.func78.trans (congrArg some (by kernel_rfl))
  t0 := Tryd.underlying0
  a0 := Tryd.isAgg0
  z0 := Tryd.sizeOf0
  v0 := Tryd.zeroValue0
  t3 := Tryd.underlying3
  a3 := Tryd.isAgg3
  z3 := Tryd.sizeOf3
  v3 := Tryd.zeroValue3
  t4 := Tryd.underlying4
  a4 := Tryd.isAgg4
  z4 := Tryd.sizeOf4
  v4 := Tryd.zeroValue4
  t9 := Tryd.underlying9
  a9 := Tryd.isAgg9
  z9 := Tryd.sizeOf9
  v9 := Tryd.zeroValue9
  t20 := Tryd.underlying20
  a20 := Tryd.isAgg20
  z20 := Tryd.sizeOf20
  v20 := Tryd.zeroValue20
  t37 := Tryd.underlying49
  a37 := Tryd.isAgg49
  z37 := Tryd.sizeOf49
  v37 := Tryd.zeroValue49
  t70 := Tryd.underlying50
  a70 := Tryd.isAgg50
  z70 := Tryd.sizeOf50
  v70 := Tryd.zeroValue50
  t72 := Tryd.underlying52
  a72 := Tryd.isAgg52
  z72 := Tryd.sizeOf52
  v72 := Tryd.zeroValue52
  t164 := Tryd.underlying83
  a164 := Tryd.isAgg83
  z164 := Tryd.sizeOf83
  v164 := Tryd.zeroValue83 }
theorem Tryd.Builder_Extra_165 : Builder.Extra Tryd.prog Tryd.lays165_ren := {
  sizeBuilder := by kernel_rfl
  liesBuilder := by kernel_rfl
  t5 := Tryd.underlying5
  a5 := Tryd.isAgg5
  z5 := Tryd.sizeOf5
  v5 := Tryd.zeroValue5
  infoByte := by kernel_rfl
  cellsByte := by kernel_rfl
  sizeByte := by kernel_rfl
  neB5 := by decide }
open Go.RowKit in
theorem Tryd.Builder_Grow_fresh (B b n : Nat) (w : World) (hB : B ≤ b) (hbk : w.heap[b]? = some (.cells #[.pointer none, .slice none 0 0] 52 (0, 0))) (hBw : B ≤ w.heap.size) (hn : n ≤ 281474976710656) :
    Calls Tryd.prog 53 #[.pointer (some ⟨b, 0, none⟩), .int .i64 n] w fun e w' => e = .returned (.tuple #[]) ∧ (Lib.BuilderAt 52 5 B b (.pointer (some ⟨b, 0, none⟩)) [] w' ∧ Below B w w') := Any.Builder_Grow_fresh Tryd.lays165 Tryd.Builder_Extra_165 B b n w hB hbk hBw hn
def Tryd.lays137_ren : Go.Shelf.Ren := ⟨fun | 137 => 62 | 217 => 74 | 266 => 85 | n => n, fun | 9 => 9 | 5 => 5 | 3 => 3 | n => n, fun | n => n⟩
theorem Tryd.lays137 : Go.Proofs.Lays.n137 Tryd.prog Tryd.lays137_ren := {
  mixed := by kernel_rfl
  f137 := Tryd.func62.trans (congrArg some (by kernel_rfl))
  f217 := Tryd.func74.trans (congrArg some (by kernel_rfl))
  f266 := Tryd.func85.trans (congrArg some (by kernel_rfl))
  t3 := Tryd.underlying3
  a3 := Tryd.isAgg3
  z3 := Tryd.sizeOf3
  v3 := Tryd.zeroValue3
  t5 := Tryd.underlying5
  a5 := Tryd.isAgg5
  z5 := Tryd.sizeOf5
  v5 := Tryd.zeroValue5
  t9 := Tryd.underlying9
  a9 := Tryd.isAgg9
  z9 := Tryd.sizeOf9
  v9 := Tryd.zeroValue9 }
open Go.RowKit in
theorem Tryd.strings_IndexByte (s : ByteArray) (c : Int) (w : World) :
    Calls Tryd.prog 62 #[.string s, .int .u8 c] w fun e w' => e = .returned (.int .i64 (Lib.indexByte s.data.toList c.toNat.toUInt8)) ∧ w' = w := Any.strings_IndexByte Tryd.lays137 s c w
open Go.RowKit in
theorem Tryd.Builder_String_f (B b : Nat) (l : List UInt8) (w : World) (h : Lib.IsBuilderF 52 5 B b (Lib.byteCells l) w) (h0 : l ≠ []) :
    Calls Tryd.prog 41 #[.pointer (some ⟨b, 0, none⟩)] w fun e w' => e = .returned (.string ⟨l.toArray⟩) ∧ (Lib.IsBuilderF 52 5 B b (Lib.byteCells l) w' ∧ Below B w w') := Any.Builder_String_f Tryd.lays169 Tryd.Builder_Extra_169 B b l w h h0
open Go.RowKit in
theorem Tryd.Builder_String_empty_f (B b : Nat) (w : World) (h : Lib.IsBuilderF 52 5 B b [] w) (hBw : B ≤ w.heap.size) :
    Calls Tryd.prog 41 #[.pointer (some ⟨b, 0, none⟩)] w fun e w' => e = .returned (.string ⟨#[]⟩) ∧ (Lib.IsBuilderF 52 5 B b [] w' ∧ Below B w w') := Any.Builder_String_empty_f Tryd.lays169 Tryd.Builder_Extra_169 B b w h hBw
open Go.RowKit in
theorem Tryd.Builder_String_any_f (B b : Nat) (l : List UInt8) (w : World) (h : Lib.IsBuilderF 52 5 B b (Lib.byteCells l) w) (hBw : B ≤ w.heap.size) :
    Calls Tryd.prog 41 #[.pointer (some ⟨b, 0, none⟩)] w fun e w' => e = .returned (.string ⟨l.toArray⟩) ∧ (Lib.IsBuilderF 52 5 B b (Lib.byteCells l) w' ∧ Below B w w') := Any.Builder_String_any_f Tryd.lays169 Tryd.Builder_Extra_169 B b l w h hBw
open Go.RowKit in
theorem Tryd.Builder_String_k (B b : Nat) (l : List UInt8) (w : World) (h : Lib.IsBuilderF 52 5 B b (Lib.byteCells l) w) (h0 : l ≠ []) :
    Calls Tryd.prog 41 #[.pointer (some ⟨b, 0, none⟩)] w fun e w' => e = .returned (.string ⟨l.toArray⟩) ∧ (Lib.IsBuilderF 52 5 B b (Lib.byteCells l) w' ∧ Below B w w' ∧ Lib.OthersKept 5 (some b) w w') := Any.Builder_String_k Tryd.lays169 Tryd.Builder_Extra_169 B b l w h h0
open Go.RowKit in
theorem Tryd.Builder_String_empty_k (B b : Nat) (w : World) (h : Lib.IsBuilderF 52 5 B b [] w) (hBw : B ≤ w.heap.size) :
    Calls Tryd.prog 41 #[.pointer (some ⟨b, 0, none⟩)] w fun e w' => e = .returned (.string ⟨#[]⟩) ∧ (Lib.IsBuilderF 52 5 B b [] w' ∧ Below B w w' ∧ Lib.OthersKept 5 (some b) w w') := Any.Builder_String_empty_k Tryd.lays169 Tryd.Builder_Extra_169 B b w h hBw
open Go.RowKit in
theorem Tryd.Builder_String_any_k (B b : Nat) (l : List UInt8) (w : World) (h : Lib.IsBuilderF 52 5 B b (Lib.byteCells l) w) (hBw : B ≤ w.heap.size) :
    Calls Tryd.prog 41 #[.pointer (some ⟨b, 0, none⟩)] w fun e w' => e = .returned (.string ⟨l.toArray⟩) ∧ (Lib.IsBuilderF 52 5 B b (Lib.byteCells l) w' ∧ Below B w w' ∧ Lib.OthersKept 5 (some b) w w') := Any.Builder_String_any_k Tryd.lays169 Tryd.Builder_Extra_169 B b l w h hBw
def Tryd.lays195_ren : Go.Shelf.Ren := ⟨fun | 195 => 65 | n => n, fun | 9 => 9 | 3 => 3 | 0 => 0 | 4 => 4 | n => n, fun | n => n⟩
theorem Tryd.lays195 : Go.Proofs.Lays.n195 Tryd.prog Tryd.lays195_ren := {
  mixed := by kernel_rfl
  f195 := Tryd.func65.trans (congrArg some (by kernel_rfl))
  t0 := Tryd.underlying0
  a0 := Tryd.isAgg0
  z0 := Tryd.sizeOf0
  v0 := Tryd.zeroValue0
  t3 := Tryd.underlying3
  a3 := Tryd.isAgg3
  z3 := Tryd.sizeOf3
  v3 := Tryd.zeroValue3
  t4 := Tryd.underlying4
  a4 := Tryd.isAgg4
  z4 := Tryd.sizeOf4
  v4 := Tryd.zeroValue4
  t9 := Tryd.underlying9
  a9 := Tryd.isAgg9
  z9 := Tryd.sizeOf9
  v9 := Tryd.zeroValue9 }
open Go.RowKit in
theorem Tryd.utf8_RuneCountInString (s : ByteArray) (w : World) (hs : s.size < 9223372036854775807) :
    Calls Tryd.prog 65 #[.string s] w fun e w' => e = .returned (.int .i64 (Lib.runeCount s)) ∧ ∃ pos, w' = w.iter s pos := Any.utf8_RuneCountInString Tryd.lays195 s w hs
def Tryd.lays217_ren : Go.Shelf.Ren := ⟨fun | 217 => 74 | 266 => 85 | n => n, fun | 9 => 9 | 5 => 5 | 3 => 3 | n => n, fun | n => n⟩
theorem Tryd.lays217 : Go.Proofs.Lays.n217 Tryd.prog Tryd.lays217_ren := {
  mixed := by kernel_rfl
  f217 := Tryd.func74.trans (congrArg some (by kernel_rfl))
  f266 := Tryd.func85.trans (congrArg some (by kernel_rfl))
  t3 := Tryd.underlying3
  a3 := Tryd.isAgg3
  z3 := Tryd.sizeOf3
  v3 := Tryd.zeroValue3
  t5 := Tryd.underlying5
  a5 := Tryd.isAgg5
  z5 := Tryd.sizeOf5
  v5 := Tryd.zeroValue5
  t9 := Tryd.underlying9
  a9 := Tryd.isAgg9
  z9 := Tryd.sizeOf9
  v9 := Tryd.zeroValue9 }
open Go.RowKit Go.Lib in
theorem Tryd.stringslite_IndexByte (s : ByteArray) (c : Int) (w : World) :
    Calls Tryd.prog 74 #[.string s, .int .u8 c] w fun e w' => e = .returned (.int .i64 (Lib.indexByte s.data.toList c.toNat.toUInt8)) ∧ w' = w := Any.stringslite_IndexByte Tryd.lays217 s c w
def Tryd.lays224_ren : Go.Shelf.Ren := ⟨fun | 224 => 80 | n => n, fun | 3 => 3 | n => n, fun | n => n⟩
theorem Tryd.lays224 : Go.Proofs.Lays.n224 Tryd.prog Tryd.lays224_ren := {
  mixed := by kernel_rfl
  f224 := Tryd.func80.trans (congrArg some (by kernel_rfl))
  t3 := Tryd.underlying3
  a3 := Tryd.isAgg3
  z3 := Tryd.sizeOf3
  v3 := Tryd.zeroValue3 }
open Go.RowKit Go.Lib in
theorem Tryd.bytealg_Cutover (n : Int) (h0 : 0 ≤ n) (h1 : n < 4611686018427387904) (w : World) :
    Calls Tryd.prog 80 #[.int .i64 n] w fun e w' => e = .returned (.int .i64 ((n + 16) / 8)) ∧ w' = w := Any.bytealg_Cutover Tryd.lays224 n h0 h1 w
def Tryd.lays314_ren : Go.Shelf.Ren := ⟨fun | 314 => 87 | n => n, fun | 9 => 9 | 51 => 100 | 3 => 3 | 4 => 4 | 5 => 5 | 46 => 75 | n => n, fun | n => n⟩
theorem Tryd.lays314 : Go.Proofs.Lays.n314 Tryd.prog Tryd.lays314_ren := {
  mixed := by kernel_rfl
  f314 := Tryd.func87.trans (congrArg some (by kernel_rfl))
  t3 := Tryd.underlying3
  a3 := Tryd.isAgg3
  z3 := Tryd.sizeOf3
  v3 := Tryd.zeroValue3
  t4 := Tryd.underlying4
  a4 := Tryd.isAgg4
  z4 := Tryd.sizeOf4
  v4 := Tryd.zeroValue4
  t5 := Tryd.underlying5
  a5 := Tryd.isAgg5
  z5 := Tryd.sizeOf5
  v5 := Tryd.zeroValue5
  t9 := Tryd.underlying9
  a9 := Tryd.isAgg9
  z9 := Tryd.sizeOf9
  v9 := Tryd.zeroValue9
  t46 := Tryd.underlying75
  a46 := Tryd.isAgg75
  z46 := Tryd.sizeOf75
  v46 := Tryd.zeroValue75
  t51 := Tryd.underlying100
  a51 := Tryd.isAgg100
  z51 := Tryd.sizeOf100
  v51 := Tryd.zeroValue100 }
open Go.RowKit Go.Lib in
theorem Tryd.bytealg_hashStr (sep : ByteArray) (hs : sep.size < 4294967281) (w : World) :
    Calls Tryd.prog 87 #[.string sep] w fun e w' => e = .returned (.tuple #[.int .u32 (RK.H sep.data.toList % 4294967296), .int .u32 (16777619 ^ sep.size % 4294967296)]) ∧ w' = w := Any.bytealg_hashStr Tryd.lays314 sep hs w
def Tryd.lays267_ren : Go.Shelf.Ren := ⟨fun | 267 => 81 | 314 => 87 | n => n, fun | 9 => 9 | 3 => 3 | 146 => 101 | 51 => 100 | 4 => 4 | 5 => 5 | 46 => 75 | n => n, fun | n => n⟩
theorem Tryd.lays267 : Go.Proofs.Lays.n267 Tryd.prog Tryd.lays267_ren := {
  mixed := by kernel_rfl
  f267 := Tryd.func81.trans (congrArg some (by kernel_rfl))
  f314 := Tryd.func87.trans (congrArg some (by kernel_rfl))
  t3 := Tryd.underlying3
  a3 := Tryd.isAgg3
  z3 := Tryd.sizeOf3
  v3 := Tryd.zeroValue3
  t4 := Tryd.underlying4
  a4 := Tryd.isAgg4
  z4 := Tryd.sizeOf4
  v4 := Tryd.zeroValue4
  t5 := Tryd.underlying5
  a5 := Tryd.isAgg5
  z5 := Tryd.sizeOf5
  v5 := Tryd.zeroValue5
  t9 := Tryd.underlying9
  a9 := Tryd.isAgg9
  z9 := Tryd.sizeOf9
  v9 := Tryd.zeroValue9
  t46 := Tryd.underlying75
  a46 := Tryd.isAgg75
  z46 := Tryd.sizeOf75
  v46 := Tryd.zeroValue75
  t51 := Tryd.underlying100
  a51 := Tryd.isAgg100
  z51 := Tryd.sizeOf100
  v51 := Tryd.zeroValue100
  t146 := Tryd.underlying101
  a146 := Tryd.isAgg101
  z146 := Tryd.sizeOf101
  v146 := Tryd.zeroValue101 }
open Go.RowKit Go.Lib in
theorem Tryd.bytealg_IndexRabinKarp (s sep : ByteArray) (h1 : 1 ≤ sep.size) (h2 : sep.size ≤ s.size) (hs : s.size < 4294967281) (w : World) :
    Calls Tryd.prog 81 #[.string s, .string sep] w fun e w' => e = .returned (.int .i64 (Lib.index s.data.toList sep.data.toList)) ∧ w' = w := Any.bytealg_IndexRabinKarp Tryd.lays267 s sep h1 h2 hs w
def Tryd.lays219_ren : Go.Shelf.Ren := ⟨fun | 219 => 68 | 217 => 74 | 225 => 79 | 224 => 80 | 267 => 81 | 266 => 85 | 314 => 87 | n => n, fun | 9 => 9 | 3 => 3 | 4 => 4 | 5 => 5 | 46 => 75 | 146 => 101 | 51 => 100 | n => n, fun | 1 => 0 | n => n⟩
theorem Tryd.lays219 : Go.Proofs.Lays.n219 Tryd.prog Tryd.lays219_ren := {
  mixed := by kernel_rfl
  f217 := Tryd.func74.trans (congrArg some (by kernel_rfl))
  f219 := Tryd.func68.trans (congrArg some (by kernel_rfl))
  f224 := Tryd.func80.trans (congrArg some (by kernel_rfl))
  f225 := Tryd.func79.trans (congrArg some (by kernel_rfl))
  f266 := Tryd.func85.trans (congrArg some (by kernel_rfl))
  f267 := Tryd.func81.trans (congrArg some (by kernel_rfl))
  f314 := Tryd.func87.trans (congrArg some (by kernel_rfl))
  t3 := Tryd.underlying3
  a3 := Tryd.isAgg3
  z3 := Tryd.sizeOf3
  v3 := Tryd.zeroValue3
  t4 := Tryd.underlying4
  a4 := Tryd.isAgg4
  z4 := Tryd.sizeOf4
  v4 := Tryd.zeroValue4
  t5 := Tryd.underlying5
  a5 := Tryd.isAgg5
  z5 := Tryd.sizeOf5
  v5 := Tryd.zeroValue5
  t9 := Tryd.underlying9
  a9 := Tryd.isAgg9
  z9 := Tryd.sizeOf9
  v9 := Tryd.zeroValue9
  t46 := Tryd.underlying75
  a46 := Tryd.isAgg75
  z46 := Tryd.sizeOf75
  v46 := Tryd.zeroValue75
  t51 := Tryd.underlying100
  a51 := Tryd.isAgg100
  z51 := Tryd.sizeOf100
  v51 := Tryd.zeroValue100
  t146 := Tryd.underlying101
  a146 := Tryd.isAgg101
  z146 := Tryd.sizeOf101
  v146 := Tryd.zeroValue101
  g1 := by kernel_rfl }
open Go.RowKit Go.Lib in
theorem Tryd.stringslite_Index_one (s : ByteArray) (c : UInt8) (w : World) :
    Calls Tryd.prog 68 #[.string s, .string ⟨#[c]⟩] w fun e w' => e = .returned (.int .i64 (Lib.indexByte s.data.toList c)) ∧ w' = w := Any.stringslite_Index_one Tryd.lays219 s c w
open Go.RowKit Go.Lib in
theorem Tryd.stringslite_Index (s sub : ByteArray) (m : Int) (w : World) (hs : s.size < 4294967281) (hm : w.cell? ⟨0, 0, none⟩ = some (.int .i64 m)) :
    Calls Tryd.prog 68 #[.string s, .string sub] w fun e w' => e = .returned (.int .i64 (Lib.index s.data.toList sub.data.toList)) ∧ w' = w := Any.stringslite_Index Tryd.lays219 s sub m w hs hm
def Tryd.lays143_ren : Go.Shelf.Ren := ⟨fun | 143 => 54 | 219 => 68 | 217 => 74 | 225 => 79 | 224 => 80 | 267 => 81 | 266 => 85 | 314 => 87 | n => n, fun | 9 => 9 | 3 => 3 | 4 => 4 | 5 => 5 | 46 => 75 | 146 => 101 | 51 => 100 | n => n, fun | 1 => 0 | n => n⟩
theorem Tryd.lays143 : Go.Proofs.Lays.n143 Tryd.prog Tryd.lays143_ren := {
  mixed := by kernel_rfl
  f143 := Tryd.func54.trans (congrArg some (by kernel_rfl))
  f217 := Tryd.func74.trans (congrArg some (by kernel_rfl))
  f219 := Tryd.func68.trans (congrArg some (by kernel_rfl))
  f224 := Tryd.func80.trans (congrArg some (by kernel_rfl))
  f225 := Tryd.func79.trans (congrArg some (by kernel_rfl))
  f266 := Tryd.func85.trans (congrArg some (by kernel_rfl))
  f267 := Tryd.func81.trans (congrArg some (by kernel_rfl))
  f314 := Tryd.func87.trans (congrArg some (by kernel_rfl))
  t3 := Tryd.underlying3
  a3 := Tryd.isAgg3
  z3 := Tryd.sizeOf3
  v3 := Tryd.zeroValue3
  t4 := Tryd.underlying4
  a4 := Tryd.isAgg4
  z4 := Tryd.sizeOf4
  v4 := Tryd.zeroValue4
  t5 := Tryd.underlying5
  a5 := Tryd.isAgg5
  z5 := Tryd.sizeOf5
  v5 := Tryd.zeroValue5
  t9 := Tryd.underlying9
  a9 := Tryd.isAgg9
  z9 := Tryd.sizeOf9
  v9 := Tryd.zeroValue9
  t46 := Tryd.underlying75
  a46 := Tryd.isAgg75
  z46 := Tryd.sizeOf75
  v46 := Tryd.zeroValue75
  t51 := Tryd.underlying100
  a51 := Tryd.isAgg100
  z51 := Tryd.sizeOf100
  v51 := Tryd.zeroValue100
  t146 := Tryd.underlying101
  a146 := Tryd.isAgg101
  z146 := Tryd.sizeOf101
  v146 := Tryd.zeroValue101
  g1 := by kernel_rfl }
open Go.RowKit Go.Lib in
theorem Tryd.strings_Index_one (s : ByteArray) (c : UInt8) (w : World) :
    Calls Tryd.prog 54 #[.string s, .string ⟨#[c]⟩] w fun e w' => e = .returned (.int .i64 (Lib.indexByte s.data.toList c)) ∧ w' = w := Any.strings_Index_one Tryd.lays143 s c w
open Go.RowKit Go.Lib in
theorem Tryd.strings_Index (s sub : ByteArray) (m : Int) (w : World) (hs : s.size < 4294967281) (hm : w.cell? ⟨0, 0, none⟩ = some (.int .i64 m)) :
    Calls Tryd.prog 54 #[.string s, .string sub] w fun e w' => e = .returned (.int .i64 (Lib.index s.data.toList sub.data.toList)) ∧ w' = w := Any.strings_Index Tryd.lays143 s sub m w hs hm
def Tryd.lays138_ren : Go.Shelf.Ren := ⟨fun | 138 => 52 | 195 => 65 | 218 => 66 | 143 => 54 | 219 => 68 | 217 => 74 | 225 => 79 | 224 => 80 | 267 => 81 | 266 => 85 | 314 => 87 | n => n, fun | 9 => 9 | 3 => 3 | 4 => 4 | 5 => 5 | 0 => 0 | 46 => 75 | 146 => 101 | 51 => 100 | n => n, fun | 1 => 0 | n => n⟩
theorem Tryd.lays138 : Go.Proofs.Lays.n138 Tryd.prog Tryd.lays138_ren := {
  mixed := by kernel_rfl
  f138 := Tryd.func52.trans (congrArg some (by kernel_rfl))
  f143 := Tryd.func54.trans (congrArg some (by kernel_rfl))
  f195 := Tryd.func65.trans (congrArg some (by kernel_rfl))
  f217 := Tryd.func74.trans (congrArg some (by kernel_rfl))
  f218 := Tryd.func66.trans (congrArg some (by kernel_rfl))
  f219 := Tryd.func68.trans (congrArg some (by kernel_rfl))
  f224 := Tryd.func80.trans (congrArg some (by kernel_rfl))
  f225 := Tryd.func79.trans (congrArg some (by kernel_rfl))
  f266 := Tryd.func85.trans (congrArg some (by kernel_rfl))
  f267 := Tryd.func81.trans (congrArg some (by kernel_rfl))
  f314 := Tryd.func87.trans (congrArg some (by kernel_rfl))
  t0 := Tryd.underlying0
  a0 := Tryd.isAgg0
  z0 := Tryd.sizeOf0
  v0 := Tryd.zeroValue0
  t3 := Tryd.underlying3
  a3 := Tryd.isAgg3
  z3 := Tryd.sizeOf3
  v3 := Tryd.zeroValue3
  t4 := Tryd.underlying4
  a4 := Tryd.isAgg4
  z4 := Tryd.sizeOf4
  v4 := Tryd.zeroValue4
  t5 := Tryd.underlying5
  a5 := Tryd.isAgg5
  z5 := Tryd.sizeOf5
  v5 := Tryd.zeroValue5
  t9 := Tryd.underlying9
  a9 := Tryd.isAgg9
  z9 := Tryd.sizeOf9
  v9 := Tryd.zeroValue9
  t46 := Tryd.underlying75
  a46 := Tryd.isAgg75
  z46 := Tryd.sizeOf75
  v46 := Tryd.zeroValue75
  t51 := Tryd.underlying100
  a51 := Tryd.isAgg100
  z51 := Tryd.sizeOf100
  v51 := Tryd.zeroValue100
  t146 := Tryd.underlying101
  a146 := Tryd.isAgg101
  z146 := Tryd.sizeOf101
  v146 := Tryd.zeroValue101
  g1 := by kernel_rfl }
open Go.RowKit Go.Lib in
theorem Tryd.strings_Count_one (s : ByteArray) (c : UInt8) (w : World) :
    Calls Tryd.prog 52 #[.string s, .string ⟨#[c]⟩] w fun e w' => e = .returned (.int .i64 (Lib.countByte s.data.toList c)) ∧ w' = w := Any.strings_Count_one Tryd.lays138 s c w
open Go.RowKit Go.Lib in
theorem Tryd.strings_Count (s sub : ByteArray) (m : Int) (w : World) (hs : s.size < 4294967281) (hm : w.cell? ⟨0, 0, none⟩ = some (.int .i64 m)) (h2 : 2 ≤ sub.size) :
    Calls Tryd.prog 52 #[.string s, .string sub] w fun e w' => e = .returned (.int .i64 (Lib.countB s sub)) ∧ w' = w := Any.strings_Count Tryd.lays138 s sub m w hs hm h2
def Tryd.laysM219_ren : Go.Shelf.Ren := ⟨fun | 219 => 68 | 217 => 74 | 225 => 79 | 224 => 80 | 267 => 81 | 266 => 85 | 314 => 87 | n => n, fun | 9 => 9 | 3 => 3 | 4 => 4 | 5 => 5 | 46 => 75 | 146 => 101 | 51 => 100 | n => n, fun | 1 => 0 | n => n⟩
theorem Tryd.laysM219 : Go.Proofs.LaysM.n219 Tryd.prog Tryd.laysM219_ren := {
  mixed := by kernel_rfl
  f217 := Tryd.func74.trans (congrArg some (by kernel_rfl))
  f219 := Tryd.func68.trans (congrArg some (by kernel_rfl))
  f224 := Tryd.func80.trans (congrArg some (by kernel_rfl))
  f225 := Tryd.func79.trans (congrArg some (by kernel_rfl))
  f266 := Tryd.func85.trans (congrArg some (by kernel_rfl))
  f267 := Tryd.func81.trans (congrArg some (by kernel_rfl))
  f314 := Tryd.func87.trans (congrArg some (by kernel_rfl))
  t3 := Tryd.underlying3
  a3 := Tryd.isAgg3
  z3 := Tryd.sizeOf3
  v3 := Tryd.zeroValue3
  t4 := Tryd.underlying4
  a4 := Tryd.isAgg4
  z4 := Tryd.sizeOf4
  v4 := Tryd.zeroValue4
  t5 := Tryd.underlying5
  a5 := Tryd.isAgg5
  z5 := Tryd.sizeOf5
  v5 := Tryd.zeroValue5
  t9 := Tryd.underlying9
  a9 := Tryd.isAgg9
  z9 := Tryd.sizeOf9
  v9 := Tryd.zeroValue9
  t46 := Tryd.underlying75
  a46 := Tryd.isAgg75
  z46 := Tryd.sizeOf75
  v46 := Tryd.zeroValue75
  t51 := Tryd.underlying100
  a51 := Tryd.isAgg100
  z51 := Tryd.sizeOf100
  v51 := Tryd.zeroValue100
  t146 := Tryd.underlying101
  a146 := Tryd.isAgg101
  z146 := Tryd.sizeOf101
  v146 := Tryd.zeroValue101
  g1 := by kernel_rfl
  i3 := by kernel_rfl
  i4 := by kernel_rfl
  i5 := by kernel_rfl
  i9 := by kernel_rfl
  i46 := by kernel_rfl
  i51 := by kernel_rfl
  i146 := by kernel_rfl
  m1 := by kernel_rfl
  s1_3 := fun w h => Go.Proofs.cell_of_shapedOpen_int (zero := #[.int .i64 0]) (t := 3) h (of_decide_eq_true (by kernel_rfl)) (by kernel_rfl) rfl (by kernel_rfl) (by kernel_rfl) Tryd.underlying3 }
open Go.RowKit Go.Lib in
theorem Tryd.stringslite_Index_shaped (s sub : ByteArray) (w : World) (h : w.ShapedOpen Tryd.prog) (hs : s.size < 4294967281) :
    Calls Tryd.prog 68 #[.string s, .string sub] w fun e w' => e = .returned (.int .i64 (Lib.index s.data.toList sub.data.toList)) ∧ w' = w := Any.stringslite_Index_shaped Tryd.laysM219 s sub w h hs
def Tryd.laysM143_ren : Go.Shelf.Ren := ⟨fun | 143 => 54 | 219 => 68 | 217 => 74 | 225 => 79 | 224 => 80 | 267 => 81 | 266 => 85 | 314 => 87 | n => n, fun | 9 => 9 | 3 => 3 | 4 => 4 | 5 => 5 | 46 => 75 | 146 => 101 | 51 => 100 | n => n, fun | 1 => 0 | n => n⟩
theorem Tryd.laysM143 : Go.Proofs.LaysM.n143 Tryd.prog Tryd.laysM143_ren := {
  mixed := by kernel_rfl
  f143 := Tryd.func54.trans (congrArg some (by kernel_rfl))
  f217 := Tryd.func74.trans (congrArg some (by kernel_rfl))
  f219 := Tryd.func68.trans (congrArg some (by kernel_rfl))
  f224 := Tryd.func80.trans (congrArg some (by kernel_rfl))
  f225 := Tryd.func79.trans (congrArg some (by kernel_rfl))
  f266 := Tryd.func85.trans (congrArg some (by kernel_rfl))
  f267 := Tryd.func81.trans (congrArg some (by kernel_rfl))
  f314 := Tryd.func87.trans (congrArg some (by kernel_rfl))
  t3 := Tryd.underlying3
  a3 := Tryd.isAgg3
  z3 := Tryd.sizeOf3
  v3 := Tryd.zeroValue3
  t4 := Tryd.underlying4
  a4 := Tryd.isAgg4
  z4 := Tryd.sizeOf4
  v4 := Tryd.zeroValue4
  t5 := Tryd.underlying5
  a5 := Tryd.isAgg5
  z5 := Tryd.sizeOf5
  v5 := Tryd.zeroValue5
  t9 := Tryd.underlying9
  a9 := Tryd.isAgg9
  z9 := Tryd.sizeOf9
  v9 := Tryd.zeroValue9
  t46 := Tryd.underlying75
  a46 := Tryd.isAgg75
  z46 := Tryd.sizeOf75
  v46 := Tryd.zeroValue75
  t51 := Tryd.underlying100
  a51 := Tryd.isAgg100
  z51 := Tryd.sizeOf100
  v51 := Tryd.zeroValue100
  t146 := Tryd.underlying101
  a146 := Tryd.isAgg101
  z146 := Tryd.sizeOf101
  v146 := Tryd.zeroValue101
  g1 := by kernel_rfl
  i3 := by kernel_rfl
  i4 := by kernel_rfl
  i5 := by kernel_rfl
  i9 := by kernel_rfl
  i46 := by kernel_rfl
  i51 := by kernel_rfl
  i146 := by kernel_rfl
  m1 := by kernel_rfl
  s1_3 := fun w h => Go.Proofs.cell_of_shapedOpen_int (zero := #[.int .i64 0]) (t := 3) h (of_decide_eq_true (by kernel_rfl)) (by kernel_rfl) rfl (by kernel_rfl) (by kernel_rfl) Tryd.underlying3 }
open Go.RowKit Go.Lib in
theorem Tryd.strings_Index_shaped (s sub : ByteArray) (w : World) (h : w.ShapedOpen Tryd.prog) (hs : s.size < 4294967281) :
    Calls Tryd.prog 54 #[.string s, .string sub] w fun e w' => e = .returned (.int .i64 (Lib.index s.data.toList sub.data.toList)) ∧ w' = w := Any.strings_Index_shaped Tryd.laysM143 s sub w h hs
def Tryd.laysM138_ren : Go.Shelf.Ren := ⟨fun | 138 => 52 | 195 => 65 | 218 => 66 | 143 => 54 | 219 => 68 | 217 => 74 | 225 => 79 | 224 => 80 | 267 => 81 | 266 => 85 | 314 => 87 | n => n, fun | 9 => 9 | 3 => 3 | 4 => 4 | 5 => 5 | 0 => 0 | 46 => 75 | 146 => 101 | 51 => 100 | n => n, fun | 1 => 0 | n => n⟩
theorem Tryd.laysM138 : Go.Proofs.LaysM.n138 Tryd.prog Tryd.laysM138_ren := {
  mixed := by kernel_rfl
  f138 := Tryd.func52.trans (congrArg some (by kernel_rfl))
  f143 := Tryd.func54.trans (congrArg some (by kernel_rfl))
  f195 := Tryd.func65.trans (congrArg some (by kernel_rfl))
  f217 := Tryd.func74.trans (congrArg some (by kernel_rfl))
  f218 := Tryd.func66.trans (congrArg some (by kernel_rfl))
  f219 := Tryd.func68.trans (congrArg some (by kernel_rfl))
  f224 := Tryd.func80.trans (congrArg some (by kernel_rfl))
  f225 := Tryd.func79.trans (congrArg some (by kernel_rfl))
  f266 := Tryd.func85.trans (congrArg some (by kernel_rfl))
  f267 := Tryd.func81.trans (congrArg some (by kernel_rfl))
  f314 := Tryd.func87.trans (congrArg some (by kernel_rfl))
  t0 := Tryd.underlying0
  a0 := Tryd.isAgg0
  z0 := Tryd.sizeOf0
  v0 := Tryd.zeroValue0
  t3 := Tryd.underlying3
  a3 := Tryd.isAgg3
  z3 := Tryd.sizeOf3
  v3 := Tryd.zeroValue3
  t4 := Tryd.underlying4
  a4 := Tryd.isAgg4
  z4 := Tryd.sizeOf4
  v4 := Tryd.zeroValue4
  t5 := Tryd.underlying5
  a5 := Tryd.isAgg5
  z5 := Tryd.sizeOf5
  v5 := Tryd.zeroValue5
  t9 := Tryd.underlying9
  a9 := Tryd.isAgg9
  z9 := Tryd.sizeOf9
  v9 := Tryd.zeroValue9
  t46 := Tryd.underlying75
  a46 := Tryd.isAgg75
  z46 := Tryd.sizeOf75
  v46 := Tryd.zeroValue75
  t51 := Tryd.underlying100
  a51 := Tryd.isAgg100
  z51 := Tryd.sizeOf100
  v51 := Tryd.zeroValue100
  t146 := Tryd.underlying101
  a146 := Tryd.isAgg101
  z146 := Tryd.sizeOf101
  v146 := Tryd.zeroValue101
  g1 := by kernel_rfl
  i0 := by kernel_rfl
  i3 := by kernel_rfl
  i4 := by kernel_rfl
  i5 := by kernel_rfl
  i9 := by kernel_rfl
  i46 := by kernel_rfl
  i51 := by kernel_rfl
  i146 := by kernel_rfl
  m1 := by kernel_rfl
  s1_3 := fun w h => Go.Proofs.cell_of_shapedOpen_int (zero := #[.int .i64 0]) (t := 3) h (of_decide_eq_true (by kernel_rfl)) (by kernel_rfl) rfl (by kernel_rfl) (by kernel_rfl) Tryd.underlying3 }
open Go.RowKit Go.Lib in
theorem Tryd.strings_Count_shaped (s sub : ByteArray) (w : World) (h : w.ShapedOpen Tryd.prog) (hs : s.size < 4294967281) (h2 : 2 ≤ sub.size) :
    Calls Tryd.prog 52 #[.string s, .string sub] w fun e w' => e = .returned (.int .i64 (Lib.countB s sub)) ∧ w' = w := Any.strings_Count_shaped Tryd.laysM138 s sub w h hs h2
def Tryd.lays206_ren : Go.Shelf.Ren := ⟨fun | 206 => 70 | n => n, fun | 9 => 9 | 4 => 4 | 3 => 3 | n => n, fun | n => n⟩
theorem Tryd.lays206 : Go.Proofs.Lays.n206 Tryd.prog Tryd.lays206_ren := {
  mixed := by kernel_rfl
  f206 := Tryd.func70.trans (congrArg some (by kernel_rfl))
  t3 := Tryd.underlying3
  a3 := Tryd.isAgg3
  z3 := Tryd.sizeOf3
  v3 := Tryd.zeroValue3
  t4 := Tryd.underlying4
  a4 := Tryd.isAgg4
  z4 := Tryd.sizeOf4
  v4 := Tryd.zeroValue4
  t9 := Tryd.underlying9
  a9 := Tryd.isAgg9
  z9 := Tryd.sizeOf9
  v9 := Tryd.zeroValue9 }
open Go.RowKit Go.Lib in
theorem Tryd.stringslite_HasPrefix (s p : ByteArray) (w : World) :
    Calls Tryd.prog 70 #[.string s, .string p] w fun e w' => e = .returned (.bool (Lib.hasPrefix s.data.toList p.data.toList)) ∧ w' = w := Any.stringslite_HasPrefix Tryd.lays206 s p w
def Tryd.lays99_ren : Go.Shelf.Ren := ⟨fun | 99 => 57 | 206 => 70 | n => n, fun | 9 => 9 | 4 => 4 | 3 => 3 | n => n, fun | n => n⟩
theorem Tryd.lays99 : Go.Proofs.Lays.n99 Tryd.prog Tryd.lays99_ren := {
  mixed := by kernel_rfl
  f99 := Tryd.func57.trans (congrArg some (by kernel_rfl))
  f206 := Tryd.func70.trans (congrArg some (by kernel_rfl))
  t3 := Tryd.underlying3
  a3 := Tryd.isAgg3
  z3 := Tryd.sizeOf3
  v3 := Tryd.zeroValue3
  t4 := Tryd.underlying4
  a4 := Tryd.isAgg4
  z4 := Tryd.sizeOf4
  v4 := Tryd.zeroValue4
  t9 := Tryd.underlying9
  a9 := Tryd.isAgg9
  z9 := Tryd.sizeOf9
  v9 := Tryd.zeroValue9 }
open Go.RowKit Go.Lib in
theorem Tryd.strings_HasPrefix (s p : ByteArray) (w : World) :
    Calls Tryd.prog 57 #[.string s, .string p] w fun e w' => e = .returned (.bool (Lib.hasPrefix s.data.toList p.data.toList)) ∧ w' = w := Any.strings_HasPrefix Tryd.lays99 s p w
def Tryd.lays207_ren : Go.Shelf.Ren := ⟨fun | 207 => 82 | n => n, fun | 9 => 9 | 4 => 4 | 3 => 3 | n => n, fun | n => n⟩
theorem Tryd.lays207 : Go.Proofs.Lays.n207 Tryd.prog Tryd.lays207_ren := {
  mixed := by kernel_rfl
  f207 := Tryd.func82.trans (congrArg some (by kernel_rfl))
  t3 := Tryd.underlying3
  a3 := Tryd.isAgg3
  z3 := Tryd.sizeOf3
  v3 := Tryd.zeroValue3
  t4 := Tryd.underlying4
  a4 := Tryd.isAgg4
  z4 := Tryd.sizeOf4
  v4 := Tryd.zeroValue4
  t9 := Tryd.underlying9
  a9 := Tryd.isAgg9
  z9 := Tryd.sizeOf9
  v9 := Tryd.zeroValue9 }
open Go.RowKit Go.Lib in
theorem Tryd.stringslite_HasSuffix (s p : ByteArray) (w : World) (hs : s.size ≤ 9223372036854775807) :
    Calls Tryd.prog 82 #[.string s, .string p] w fun e w' => e = .returned (.bool (Lib.hasSuffix s.data.toList p.data.toList)) ∧ w' = w := Any.stringslite_HasSuffix Tryd.lays207 s p w hs
def Tryd.lays209_ren : Go.Shelf.Ren := ⟨fun | 209 => 72 | 207 => 82 | n => n, fun | 9 => 9 | 4 => 4 | 3 => 3 | n => n, fun | n => n⟩
theorem Tryd.lays209 : Go.Proofs.Lays.n209 Tryd.prog Tryd.lays209_ren := {
  mixed := by kernel_rfl
  f207 := Tryd.func82.trans (congrArg some (by kernel_rfl))
  f209 := Tryd.func72.trans (congrArg some (by kernel_rfl))
  t3 := Tryd.underlying3
  a3 := Tryd.isAgg3
  z3 := Tryd.sizeOf3
  v3 := Tryd.zeroValue3
  t4 := Tryd.underlying4
  a4 := Tryd.isAgg4
  z4 := Tryd.sizeOf4
  v4 := Tryd.zeroValue4
  t9 := Tryd.underlying9
  a9 := Tryd.isAgg9
  z9 := Tryd.sizeOf9
  v9 := Tryd.zeroValue9 }
open Go.RowKit Go.Lib in
theorem Tryd.stringslite_TrimSuffix (s p : ByteArray) (w : World) (hs : s.size ≤ 9223372036854775807) :
    Calls Tryd.prog 72 #[.string s, .string p] w fun e w' => e = .returned (.string ⟨(Lib.trimSuffix s.data.toList p.data.toList).toArray⟩) ∧ w' = w := Any.stringslite_TrimSuffix Tryd.lays209 s p w hs
def Tryd.lays102_ren : Go.Shelf.Ren := ⟨fun | 102 => 60 | 209 => 72 | 207 => 82 | n => n, fun | 9 => 9 | 4 => 4 | 3 => 3 | n => n, fun | n => n⟩
theorem Tryd.lays102 : Go.Proofs.Lays.n102 Tryd.prog Tryd.lays102_ren := {
  mixed := by kernel_rfl
  f102 := Tryd.func60.trans (congrArg some (by kernel_rfl))
  f207 := Tryd.func82.trans (congrArg some (by kernel_rfl))
  f209 := Tryd.func72.trans (congrArg some (by kernel_rfl))
  t3 := Tryd.underlying3
  a3 := Tryd.isAgg3
  z3 := Tryd.sizeOf3
  v3 := Tryd.zeroValue3
  t4 := Tryd.underlying4
  a4 := Tryd.isAgg4
  z4 := Tryd.sizeOf4
  v4 := Tryd.zeroValue4
  t9 := Tryd.underlying9
  a9 := Tryd.isAgg9
  z9 := Tryd.sizeOf9
  v9 := Tryd.zeroValue9 }
open Go.RowKit Go.Lib in
theorem Tryd.strings_TrimSuffix (s p : ByteArray) (w : World) (hs : s.size ≤ 9223372036854775807) :
    Calls Tryd.prog 60 #[.string s, .string p] w fun e w' => e = .returned (.string ⟨(Lib.trimSuffix s.data.toList p.data.toList).toArray⟩) ∧ w' = w := Any.strings_TrimSuffix Tryd.lays102 s p w hs
open Go.RowKit Go.Lib in
theorem Tryd.strings_Count_any (s sep : ByteArray) (m : Int) (w : World) (hs : s.size < 4294967281) (hm : w.cell? ⟨0, 0, none⟩ = some (.int .i64 m)) (h1 : 1 ≤ sep.size) :
    Calls Tryd.prog 52 #[.string s, .string sep] w fun e w' => e = .returned (.int .i64 (Lib.countB s sep)) ∧ w' = w := Any.strings_Count_any Tryd.lays138 s sep m w hs hm h1
def Tryd.lays221_ren : Go.Shelf.Ren := ⟨fun | 221 => 63 | 268 => 75 | 138 => 52 | 143 => 54 | 195 => 65 | 197 => 55 | 218 => 66 | 219 => 68 | 260 => 69 | 217 => 74 | 225 => 79 | 224 => 80 | 267 => 81 | 266 => 85 | 314 => 87 | n => n, fun | 9 => 9 | 3 => 3 | 31 => 63 | 4 => 4 | 0 => 0 | 105 => 70 | 21 => 21 | 5 => 5 | 46 => 75 | 119 => 93 | 139 => 96 | 138 => 95 | 146 => 101 | 51 => 100 | n => n, fun | 1 => 0 | 3 => 1 | 4 => 2 | n => n⟩
theorem Tryd.lays221 : Go.Proofs.Lays.n221 Tryd.prog Tryd.lays221_ren := {
  mixed := by kernel_rfl
  f138 := Tryd.func52.trans (congrArg some (by kernel_rfl))
  f143 := Tryd.func54.trans (congrArg some (by kernel_rfl))
  f195 := Tryd.func65.trans (congrArg some (by kernel_rfl))
  f197 := Tryd.func55.trans (congrArg some (by kernel_rfl))
  f217 := Tryd.func74.trans (congrArg some (by kernel_rfl))
  f218 := Tryd.func66.trans (congrArg some (by kernel_rfl))
  f219 := Tryd.func68.trans (congrArg some (by kernel_rfl))
  f221 := Tryd.func63.trans (congrArg some (by kernel_rfl))
  f224 := Tryd.func80.trans (congrArg some (by kernel_rfl))
  f225 := Tryd.func79.trans (congrArg some (by kernel_rfl))
  f260 := Tryd.func69.trans (congrArg some (by kernel_rfl))
  f266 := Tryd.func85.trans (congrArg some (by kernel_rfl))
  f267 := Tryd.func81.trans (congrArg some (by kernel_rfl))
  f268 := Tryd.func75.trans (congrArg some (by kernel_rfl))
  f314 := Tryd.func87.trans (congrArg some (by kernel_rfl))
  t0 := Tryd.underlying0
  a0 := Tryd.isAgg0
  z0 := Tryd.sizeOf0
  v0 := Tryd.zeroValue0
  t3 := Tryd.underlying3
  a3 := Tryd.isAgg3
  z3 := Tryd.sizeOf3
  v3 := Tryd.zeroValue3
  t4 := Tryd.underlying4
  a4 := Tryd.isAgg4
  z4 := Tryd.sizeOf4
  v4 := Tryd.zeroValue4
  t5 := Tryd.underlying5
  a5 := Tryd.isAgg5
  z5 := Tryd.sizeOf5
  v5 := Tryd.zeroValue5
  t9 := Tryd.underlying9
  a9 := Tryd.isAgg9
  z9 := Tryd.sizeOf9
  v9 := Tryd.zeroValue9
  t21 := Tryd.underlying21
  a21 := Tryd.isAgg21
  z21 := Tryd.sizeOf21
  v21 := Tryd.zeroValue21
  t31 := Tryd.underlying63
  a31 := Tryd.isAgg63
  z31 := Tryd.sizeOf63
  v31 := Tryd.zeroValue63
  t46 := Tryd.underlying75
  a46 := Tryd.isAgg75
  z46 := Tryd.sizeOf75
  v46 := Tryd.zeroValue75
  t51 := Tryd.underlying100
  a51 := Tryd.isAgg100
  z51 := Tryd.sizeOf100
  v51 := Tryd.zeroValue100
  t105 := Tryd.underlying70
  a105 := Tryd.isAgg70
  z105 := Tryd.sizeOf70
  v105 := Tryd.zeroValue70
  t119 := Tryd.underlying93
  a119 := Tryd.isAgg93
  z119 := Tryd.sizeOf93
  t138 := Tryd.underlying95
  a138 := Tryd.isAgg95
  z138 := Tryd.sizeOf95
  v138 := Tryd.zeroValue95
  t139 := Tryd.underlying96
  a139 := Tryd.isAgg96
  z139 := Tryd.sizeOf96
  v139 := Tryd.zeroValue96
  t146 := Tryd.underlying101
  a146 := Tryd.isAgg101
  z146 := Tryd.sizeOf101
  v146 := Tryd.zeroValue101
  g1 := by kernel_rfl
  g3 := by kernel_rfl
  g4 := by kernel_rfl }
open Go.RowKit Go.Lib in
theorem Tryd.strings_genSplit (s sep : ByteArray) (sv : Nat) (n : Int) (N : Nat) (m : Int) (w : World) (hs : s.size < 4294967281) (hm : w.cell? ⟨0, 0, none⟩ = some (.int .i64 m)) (h1 : 1 ≤ sep.size) (hsv : sv ≤ sep.size) (hn0 : n ≠ 0) (hn63 : n ≤ 9223372036854775807) (hN : (N : Int) = min (if n < 0 then (Lib.countB s sep : Int) + 1 else n) ((s.size : Int) + 1)) :
    Calls Tryd.prog 63 #[.string s, .string sep, .int .i64 sv, .int .i64 n] w fun e w' =>
      e = .returned (.slice (some ⟨w.heap.size, 0, none⟩) (Lib.splitB sep sv (N - 1) s).length N) ∧ w' = w.alloc (.cells (Lib.cellsOf (Lib.splitB sep sv (N - 1) s) N) 9) := Any.strings_genSplit Tryd.lays221 (by kernel_rfl) s sep sv n N m w hs hm h1 hsv hn0 hn63 hN
def Tryd.lays146_ren : Go.Shelf.Ren := ⟨fun | 146 => 45 | 221 => 63 | 268 => 75 | 138 => 52 | 143 => 54 | 195 => 65 | 197 => 55 | 218 => 66 | 219 => 68 | 260 => 69 | 217 => 74 | 225 => 79 | 224 => 80 | 267 => 81 | 266 => 85 | 314 => 87 | n => n, fun | 9 => 9 | 31 => 63 | 3 => 3 | 4 => 4 | 0 => 0 | 105 => 70 | 21 => 21 | 5 => 5 | 46 => 75 | 119 => 93 | 139 => 96 | 138 => 95 | 146 => 101 | 51 => 100 | n => n, fun | 1 => 0 | 3 => 1 | 4 => 2 | n => n⟩
theorem Tryd.lays146 : Go.Proofs.Lays.n146 Tryd.prog Tryd.lays146_ren := {
  mixed := by kernel_rfl
  f138 := Tryd.func52.trans (congrArg some (by kernel_rfl))
  f143 := Tryd.func54.trans (congrArg some (by kernel_rfl))
  f146 := Tryd.func45.trans (congrArg some (by kernel_rfl))
  f195 := Tryd.func65.trans (congrArg some (by kernel_rfl))
  f197 := Tryd.func55.trans (congrArg some (by kernel_rfl))
  f217 := Tryd.func74.trans (congrArg some (by kernel_rfl))
  f218 := Tryd.func66.trans (congrArg some (by kernel_rfl))
  f219 := Tryd.func68.trans (congrArg some (by kernel_rfl))
  f221 := Tryd.func63.trans (congrArg some (by kernel_rfl))
  f224 := Tryd.func80.trans (congrArg some (by kernel_rfl))
  f225 := Tryd.func79.trans (congrArg some (by kernel_rfl))
  f260 := Tryd.func69.trans (congrArg some (by kernel_rfl))
  f266 := Tryd.func85.trans (congrArg some (by kernel_rfl))
  f267 := Tryd.func81.trans (congrArg some (by kernel_rfl))
  f268 := Tryd.func75.trans (congrArg some (by kernel_rfl))
  f314 := Tryd.func87.trans (congrArg some (by kernel_rfl))
  t0 := Tryd.underlying0
  a0 := Tryd.isAgg0
  z0 := Tryd.sizeOf0
  v0 := Tryd.zeroValue0
  t3 := Tryd.underlying3
  a3 := Tryd.isAgg3
  z3 := Tryd.sizeOf3
  v3 := Tryd.zeroValue3
  t4 := Tryd.underlying4
  a4 := Tryd.isAgg4
  z4 := Tryd.sizeOf4
  v4 := Tryd.zeroValue4
  t5 := Tryd.underlying5
  a5 := Tryd.isAgg5
  z5 := Tryd.sizeOf5
  v5 := Tryd.zeroValue5
  t9 := Tryd.underlying9
  a9 := Tryd.isAgg9
  z9 := Tryd.sizeOf9
  v9 := Tryd.zeroValue9
  t21 := Tryd.underlying21
  a21 := Tryd.isAgg21
  z21 := Tryd.sizeOf21
  v21 := Tryd.zeroValue21
  t31 := Tryd.underlying63
  a31 := Tryd.isAgg63
  z31 := Tryd.sizeOf63
  v31 := Tryd.zeroValue63
  t46 := Tryd.underlying75
  a46 := Tryd.isAgg75
  z46 := Tryd.sizeOf75
  v46 := Tryd.zeroValue75
  t51 := Tryd.underlying100
  a51 := Tryd.isAgg100
  z51 := Tryd.sizeOf100
  v51 := Tryd.zeroValue100
  t105 := Tryd.underlying70
  a105 := Tryd.isAgg70
  z105 := Tryd.sizeOf70
  v105 := Tryd.zeroValue70
  t119 := Tryd.underlying93
  a119 := Tryd.isAgg93
  z119 := Tryd.sizeOf93
  t138 := Tryd.underlying95
  a138 := Tryd.isAgg95
  z138 := Tryd.sizeOf95
  v138 := Tryd.zeroValue95
  t139 := Tryd.underlying96
  a139 := Tryd.isAgg96
  z139 := Tryd.sizeOf96
  v139 := Tryd.zeroValue96
  t146 := Tryd.underlying101
  a146 := Tryd.isAgg101
  z146 := Tryd.sizeOf101
  v146 := Tryd.zeroValue101
  g1 := by kernel_rfl
  g3 := by kernel_rfl
  g4 := by kernel_rfl }
open Go.RowKit Go.Lib in
theorem Tryd.strings_Split (s sep : ByteArray) (m : Int) (w : World) (hs : s.size < 4294967281) (hm : w.cell? ⟨0, 0, none⟩ = some (.int .i64 m)) (h1 : 1 ≤ sep.size) :
    Calls Tryd.prog 45 #[.string s, .string sep] w fun e w' =>
      e = .returned (.slice (some ⟨w.heap.size, 0, none⟩) (Lib.countB s sep + 1) (Lib.countB s sep + 1)) ∧ w' = w.alloc (.cells ((Lib.splitB sep 0 (Lib.countB s sep) s).map Value.string).toArray 9) := Any.strings_Split Tryd.lays146 (by kernel_rfl) s sep m w hs hm h1
def Tryd.lays154_ren : Go.Shelf.Ren := ⟨fun | 154 => 35 | 138 => 52 | 165 => 53 | 143 => 54 | 166 => 38 | 197 => 55 | 169 => 41 | 195 => 65 | 218 => 66 | 240 => 58 | 241 => 67 | 219 => 68 | 260 => 69 | 276 => 71 | 277 => 78 | 217 => 74 | 225 => 79 | 224 => 80 | 267 => 81 | 266 => 85 | 314 => 87 | n => n, fun | 9 => 9 | 3 => 3 | 4 => 4 | 72 => 52 | 0 => 0 | 76 => 57 | 105 => 70 | 21 => 21 | 5 => 5 | 70 => 50 | 20 => 20 | 37 => 49 | 75 => 56 | 127 => 76 | 164 => 83 | 46 => 75 | 119 => 93 | 139 => 96 | 138 => 95 | 146 => 101 | 51 => 100 | 80 => 61 | n => n, fun | 1 => 0 | 3 => 1 | 4 => 2 | n => n⟩
theorem Tryd.lays154 : Go.Proofs.Lays.n154 Tryd.prog Tryd.lays154_ren := {
  mixed := by kernel_rfl
  f138 := Tryd.func52.trans (congrArg some (by kernel_rfl))
  f143 := Tryd.func54.trans (congrArg some (by kernel_rfl))
  f154 := Tryd.func35.trans (congrArg some (by kernel_rfl))
  f165 := Tryd.func53.trans (congrArg some (by kernel_rfl))
  f166 := Tryd.func38.trans (congrArg some (by kernel_rfl))
  f169 := Tryd.func41.trans (congrArg some (by kernel_rfl))
  f195 := Tryd.func65.trans (congrArg some (by kernel_rfl))
  f197 := Tryd.func55.trans (congrArg some (by kernel_rfl))
  f217 := Tryd.func74.trans (congrArg some (by kernel_rfl))
  f218 := Tryd.func66.trans (congrArg some (by kernel_rfl))
  f219 := Tryd.func68.trans (congrArg some (by kernel_rfl))
  f224 := Tryd.func80.trans (congrArg some (by kernel_rfl))
  f225 := Tryd.func79.trans (congrArg some (by kernel_rfl))
  f240 := Tryd.func58.trans (congrArg some (by kernel_rfl))
  f241 := Tryd.func67.trans (congrArg some (by kernel_rfl))
  f260 := Tryd.func69.trans (congrArg some (by kernel_rfl))
  f266 := Tryd.func85.trans (congrArg some (by kernel_rfl))
  f267 := Tryd.func81.trans (congrArg some (by kernel_rfl))
  f276 := Tryd.func71.trans (congrArg some (by kernel_rfl))
  f277 := Tryd.func78.trans (congrArg some (by kernel_rfl))
  f314 := Tryd.func87.trans (congrArg some (by kernel_rfl))
  t0 := Tryd.underlying0
  a0 := Tryd.isAgg0
  z0 := Tryd.sizeOf0
  v0 := Tryd.zeroValue0
  t3 := Tryd.underlying3
  a3 := Tryd.isAgg3
  z3 := Tryd.sizeOf3
  v3 := Tryd.zeroValue3
  t4 := Tryd.underlying4
  a4 := Tryd.isAgg4
  z4 := Tryd.sizeOf4
  v4 := Tryd.zeroValue4
  t5 := Tryd.underlying5
  a5 := Tryd.isAgg5
  z5 := Tryd.sizeOf5
  v5 := Tryd.zeroValue5
  t9 := Tryd.underlying9
  a9 := Tryd.isAgg9
  z9 := Tryd.sizeOf9
  v9 := Tryd.zeroValue9
  t20 := Tryd.underlying20
  a20 := Tryd.isAgg20
  z20 := Tryd.sizeOf20
  v20 := Tryd.zeroValue20
  t21 := Tryd.underlying21
  a21 := Tryd.isAgg21
  z21 := Tryd.sizeOf21
  v21 := Tryd.zeroValue21
  t37 := Tryd.underlying49
  a37 := Tryd.isAgg49
  z37 := Tryd.sizeOf49
  v37 := Tryd.zeroValue49
  t46 := Tryd.underlying75
  a46 := Tryd.isAgg75
  z46 := Tryd.sizeOf75
  v46 := Tryd.zeroValue75
  t51 := Tryd.underlying100
  a51 := Tryd.isAgg100
  z51 := Tryd.sizeOf100
  v51 := Tryd.zeroValue100
  t70 := Tryd.underlying50
  a70 := Tryd.isAgg50
  z70 := Tryd.sizeOf50
  v70 := Tryd.zeroValue50
  t72 := Tryd.underlying52
  a72 := Tryd.isAgg52
  z72 := Tryd.sizeOf52
  v72 := Tryd.zeroValue52
  t75 := Tryd.underlying56
  a75 := Tryd.isAgg56
  z75 := Tryd.sizeOf56
  v75 := Tryd.zeroValue56
  t76 := Tryd.underlying57
  a76 := Tryd.isAgg57
  z76 := Tryd.sizeOf57
  v76 := Tryd.zeroValue57
  t105 := Tryd.underlying70
  a105 := Tryd.isAgg70
  z105 := Tryd.sizeOf70
  v105 := Tryd.zeroValue70
  t119 := Tryd.underlying93
  a119 := Tryd.isAgg93
  z119 := Tryd.sizeOf93
  t127 := Tryd.underlying76
  a127 := Tryd.isAgg76
  z127 := Tryd.sizeOf76
  v127 := Tryd.zeroValue76
  t138 := Tryd.underlying95
  a138 := Tryd.isAgg95
  z138 := Tryd.sizeOf95
  v138 := Tryd.zeroValue95
  t139 := Tryd.underlying96
  a139 := Tryd.isAgg96
  z139 := Tryd.sizeOf96
  v139 := Tryd.zeroValue96
  t146 := Tryd.underlying101
  a146 := Tryd.isAgg101
  z146 := Tryd.sizeOf101
  v146 := Tryd.zeroValue101
  t164 := Tryd.underlying83
  a164 := Tryd.isAgg83
  z164 := Tryd.sizeOf83
  v164 := Tryd.zeroValue83
  g1 := by kernel_rfl
  g3 := by kernel_rfl
  g4 := by kernel_rfl }
theorem Tryd.Builder_Extra_154 : Builder.Extra Tryd.prog Tryd.lays154_ren := {
  sizeBuilder := by kernel_rfl
  liesBuilder := by kernel_rfl
  t5 := Tryd.underlying5
  a5 := Tryd.isAgg5
  z5 := Tryd.sizeOf5
  v5 := Tryd.zeroValue5
  infoByte := by kernel_rfl
  cellsByte := by kernel_rfl
  sizeByte := by kernel_rfl
  neB5 := by decide }
open Go.RowKit Go.Lib in
theorem Tryd.strings_Replace_some (s old new : ByteArray) (n : Int) (m : Int) (w : World) (hs : s.size < 4294967281) (hm : w.cell? ⟨0, 0, none⟩ = some (.int .i64 m)) (h1 : 1 ≤ old.size) (hne : old ≠ new) (hn0 : n ≠ 0) (hc0 : Lib.countB s old ≠ 0) (hlen : s.size + Lib.countB s old * new.size ≤ 140737488355328) :
    Calls Tryd.prog 35 #[.string s, .string old, .string new, .int .i64 n] w fun e w' =>
      e = .returned (.string ⟨(Lib.replaceK old.data.toList new.data.toList (Lib.replaceNum s.data.toList old.data.toList n) s.data.toList).toArray⟩) ∧ Below w.heap.size w w' := Any.strings_Replace_some Tryd.lays154 Tryd.Builder_Extra_154 s old new n m w hs hm h1 hne hn0 hc0 hlen
open Go.RowKit Go.Lib in
theorem Tryd.strings_Replace_none (s old new : ByteArray) (n : Int) (w : World) (h : old = new ∨ n = 0) :
    Calls Tryd.prog 35 #[.string s, .string old, .string new, .int .i64 n] w fun e w' => e = .returned (.string s) ∧ w' = w := Any.strings_Replace_none Tryd.lays154 s old new n w h
open Go.RowKit Go.Lib in
theorem Tryd.strings_Replace_absent (s old new : ByteArray) (n : Int) (m : Int) (w : World) (hs : s.size < 4294967281) (hm : w.cell? ⟨0, 0, none⟩ = some (.int .i64 m)) (h1 : 1 ≤ old.size) (hne : old ≠ new) (hn0 : n ≠ 0) (hc0 : Lib.countB s old = 0) :
    Calls Tryd.prog 35 #[.string s, .string old, .string new, .int .i64 n] w fun e w' => e = .returned (.string s) ∧ w' = w := Any.strings_Replace_absent Tryd.lays154 s old new n m w hs hm h1 hne hn0 hc0
open Go.RowKit Go.Lib in
theorem Tryd.strings_Replace (s old new : ByteArray) (n : Int) (m : Int) (w : World) (hs : s.size < 4294967281) (hm : w.cell? ⟨0, 0, none⟩ = some (.int .i64 m)) (h1 : 1 ≤ old.size) (hlen : s.size + Lib.countB s old * new.size ≤ 140737488355328) :
    Calls Tryd.prog 35 #[.string s, .string old, .string new, .int .i64 n] w fun e w' =>
      e = .returned (.string ⟨(Lib.replace s.data.toList old.data.toList new.data.toList n).toArray⟩) ∧ Below w.heap.size w w' := Any.strings_Replace Tryd.lays154 Tryd.Builder_Extra_154 s old new n m w hs hm h1 hlen
def Tryd.lays155_ren : Go.Shelf.Ren := ⟨fun | 155 => 24 | 154 => 35 | 138 => 52 | 165 => 53 | 143 => 54 | 166 => 38 | 197 => 55 | 169 => 41 | 195 => 65 | 218 => 66 | 240 => 58 | 241 => 67 | 219 => 68 | 260 => 69 | 276 => 71 | 277 => 78 | 217 => 74 | 225 => 79 | 224 => 80 | 267 => 81 | 266 => 85 | 314 => 87 | n => n, fun | 9 => 9 | 3 => 3 | 4 => 4 | 72 => 52 | 0 => 0 | 76 => 57 | 105 => 70 | 21 => 21 | 5 => 5 | 70 => 50 | 20 => 20 | 37 => 49 | 75 => 56 | 127 => 76 | 164 => 83 | 46 => 75 | 119 => 93 | 139 => 96 | 138 => 95 | 146 => 101 | 51 => 100 | 80 => 61 | n => n, fun | 1 => 0 | 3 => 1 | 4 => 2 | n => n⟩
theorem Tryd.lays155 : Go.Proofs.Lays.n155 Tryd.prog Tryd.lays155_ren := {
  mixed := by kernel_rfl
  f138 := Tryd.func52.trans (congrArg some (by kernel_rfl))
  f143 := Tryd.func54.trans (congrArg some (by kernel_rfl))
  f154 := Tryd.func35.trans (congrArg some (by kernel_rfl))
  f155 := Tryd.func24.trans (congrArg some (by kernel_rfl))
  f165 := Tryd.func53.trans (congrArg some (by kernel_rfl))
  f166 := Tryd.func38.trans (congrArg some (by kernel_rfl))
  f169 := Tryd.func41.trans (congrArg some (by kernel_rfl))
  f195 := Tryd.func65.trans (congrArg some (by kernel_rfl))
  f197 := Tryd.func55.trans (congrArg some (by kernel_rfl))
  f217 := Tryd.func74.trans (congrArg some (by kernel_rfl))
  f218 := Tryd.func66.trans (congrArg some (by kernel_rfl))
  f219 := Tryd.func68.trans (congrArg some (by kernel_rfl))
  f224 := Tryd.func80.trans (congrArg some (by kernel_rfl))
  f225 := Tryd.func79.trans (congrArg some (by kernel_rfl))
  f240 := Tryd.func58.trans (congrArg some (by kernel_rfl))
  f241 := Tryd.func67.trans (congrArg some (by kernel_rfl))
  f260 := Tryd.func69.trans (congrArg some (by kernel_rfl))
  f266 := Tryd.func85.trans (congrArg some (by kernel_rfl))
  f267 := Tryd.func81.trans (congrArg some (by kernel_rfl))
  f276 := Tryd.func71.trans (congrArg some (by kernel_rfl))
  f277 := Tryd.func78.trans (congrArg some (by kernel_rfl))
  f314 := Tryd.func87.trans (congrArg some (by kernel_rfl))
  t0 := Tryd.underlying0
  a0 := Tryd.isAgg0
  z0 := Tryd.sizeOf0
  v0 := Tryd.zeroValue0
  t3 := Tryd.underlying3
  a3 := Tryd.isAgg3
  z3 := Tryd.sizeOf3
  v3 := Tryd.zeroValue3
  t4 := Tryd.underlying4
  a4 := Tryd.isAgg4
  z4 := Tryd.sizeOf4
  v4 := Tryd.zeroValue4
  t5 := Tryd.underlying5
  a5 := Tryd.isAgg5
  z5 := Tryd.sizeOf5
  v5 := Tryd.zeroValue5
  t9 := Tryd.underlying9
  a9 := Tryd.isAgg9
  z9 := Tryd.sizeOf9
  v9 := Tryd.zeroValue9
  t20 := Tryd.underlying20
  a20 := Tryd.isAgg20
  z20 := Tryd.sizeOf20
  v20 := Tryd.zeroValue20
  t21 := Tryd.underlying21
  a21 := Tryd.isAgg21
  z21 := Tryd.sizeOf21
  v21 := Tryd.zeroValue21
  t37 := Tryd.underlying49
  a37 := Tryd.isAgg49
  z37 := Tryd.sizeOf49
  v37 := Tryd.zeroValue49
  t46 := Tryd.underlying75
  a46 := Tryd.isAgg75
  z46 := Tryd.sizeOf75
  v46 := Tryd.zeroValue75
  t51 := Tryd.underlying100
  a51 := Tryd.isAgg100
  z51 := Tryd.sizeOf100
  v51 := Tryd.zeroValue100
  t70 := Tryd.underlying50
  a70 := Tryd.isAgg50
  z70 := Tryd.sizeOf50
  v70 := Tryd.zeroValue50
  t72 := Tryd.underlying52
  a72 := Tryd.isAgg52
  z72 := Tryd.sizeOf52
  v72 := Tryd.zeroValue52
  t75 := Tryd.underlying56
  a75 := Tryd.isAgg56
  z75 := Tryd.sizeOf56
  v75 := Tryd.zeroValue56
  t76 := Tryd.underlying57
  a76 := Tryd.isAgg57
  z76 := Tryd.sizeOf57
  v76 := Tryd.zeroValue57
  t105 := Tryd.underlying70
  a105 := Tryd.isAgg70
  z105 := Tryd.sizeOf70
  v105 := Tryd.zeroValue70
  t119 := Tryd.underlying93
  a119 := Tryd.isAgg93
  z119 := Tryd.sizeOf93
  t127 := Tryd.underlying76
  a127 := Tryd.isAgg76
  z127 := Tryd.sizeOf76
  v127 := Tryd.zeroValue76
  t138 := Tryd.underlying95
  a138 := Tryd.isAgg95
  z138 := Tryd.sizeOf95
  v138 := Tryd.zeroValue95
  t139 := Tryd.underlying96
  a139 := Tryd.isAgg96
  z139 := Tryd.sizeOf96
  v139 := Tryd.zeroValue96
  t146 := Tryd.underlying101
  a146 := Tryd.isAgg101
  z146 := Tryd.sizeOf101
  v146 := Tryd.zeroValue101
  t164 := Tryd.underlying83
  a164 := Tryd.isAgg83
  z164 := Tryd.sizeOf83
  v164 := Tryd.zeroValue83
  g1 := by kernel_rfl
  g3 := by kernel_rfl
  g4 := by kernel_rfl }
theorem Tryd.Builder_Extra_155 : Builder.Extra Tryd.prog Tryd.lays155_ren := {
  sizeBuilder := by kernel_rfl
  liesBuilder := by kernel_rfl
  t5 := Tryd.underlying5
  a5 := Tryd.isAgg5
  z5 := Tryd.sizeOf5
  v5 := Tryd.zeroValue5
  infoByte := by kernel_rfl
  cellsByte := by kernel_rfl
  sizeByte := by kernel_rfl
  neB5 := by decide }
open Go.RowKit Go.Lib in
theorem Tryd.strings_ReplaceAll (s old new : ByteArray) (m : Int) (w : World) (hs : s.size < 4294967281) (hm : w.cell? ⟨0, 0, none⟩ = some (.int .i64 m)) (h1 : 1 ≤ old.size) (hlen : s.size + Lib.countB s old * new.size ≤ 140737488355328) :
    Calls Tryd.prog 24 #[.string s, .string old, .string new] w fun e w' =>
      e = .returned (.string ⟨(Lib.replaceAll s.data.toList old.data.toList new.data.toList).toArray⟩) ∧ Below w.heap.size w w' := Any.strings_ReplaceAll Tryd.lays155 Tryd.Builder_Extra_155 s old new m w hs hm h1 hlen
def Tryd.laysM146_ren : Go.Shelf.Ren := ⟨fun | 146 => 45 | 221 => 63 | 268 => 75 | 138 => 52 | 143 => 54 | 195 => 65 | 197 => 55 | 218 => 66 | 219 => 68 | 260 => 69 | 217 => 74 | 225 => 79 | 224 => 80 | 267 => 81 | 266 => 85 | 314 => 87 | n => n, fun | 9 => 9 | 31 => 63 | 3 => 3 | 4 => 4 | 0 => 0 | 105 => 70 | 21 => 21 | 5 => 5 | 46 => 75 | 119 => 93 | 139 => 96 | 138 => 95 | 146 => 101 | 51 => 100 | n => n, fun | 1 => 0 | 3 => 1 | 4 => 2 | n => n⟩
theorem Tryd.laysM146 : Go.Proofs.LaysM.n146 Tryd.prog Tryd.laysM146_ren := {
  mixed := by kernel_rfl
  f138 := Tryd.func52.trans (congrArg some (by kernel_rfl))
  f143 := Tryd.func54.trans (congrArg some (by kernel_rfl))
  f146 := Tryd.func45.trans (congrArg some (by kernel_rfl))
  f195 := Tryd.func65.trans (congrArg some (by kernel_rfl))
  f197 := Tryd.func55.trans (congrArg some (by kernel_rfl))
  f217 := Tryd.func74.trans (congrArg some (by kernel_rfl))
  f218 := Tryd.func66.trans (congrArg some (by kernel_rfl))
  f219 := Tryd.func68.trans (congrArg some (by kernel_rfl))
  f221 := Tryd.func63.trans (congrArg some (by kernel_rfl))
  f224 := Tryd.func80.trans (congrArg some (by kernel_rfl))
  f225 := Tryd.func79.trans (congrArg some (by kernel_rfl))
  f260 := Tryd.func69.trans (congrArg some (by kernel_rfl))
  f266 := Tryd.func85.trans (congrArg some (by kernel_rfl))
  f267 := Tryd.func81.trans (congrArg some (by kernel_rfl))
  f268 := Tryd.func75.trans (congrArg some (by kernel_rfl))
  f314 := Tryd.func87.trans (congrArg some (by kernel_rfl))
  t0 := Tryd.underlying0
  a0 := Tryd.isAgg0
  z0 := Tryd.sizeOf0
  v0 := Tryd.zeroValue0
  t3 := Tryd.underlying3
  a3 := Tryd.isAgg3
  z3 := Tryd.sizeOf3
  v3 := Tryd.zeroValue3
  t4 := Tryd.underlying4
  a4 := Tryd.isAgg4
  z4 := Tryd.sizeOf4
  v4 := Tryd.zeroValue4
  t5 := Tryd.underlying5
  a5 := Tryd.isAgg5
  z5 := Tryd.sizeOf5
  v5 := Tryd.zeroValue5
  t9 := Tryd.underlying9
  a9 := Tryd.isAgg9
  z9 := Tryd.sizeOf9
  v9 := Tryd.zeroValue9
  t21 := Tryd.underlying21
  a21 := Tryd.isAgg21
  z21 := Tryd.sizeOf21
  v21 := Tryd.zeroValue21
  t31 := Tryd.underlying63
  a31 := Tryd.isAgg63
  z31 := Tryd.sizeOf63
  v31 := Tryd.zeroValue63
  t46 := Tryd.underlying75
  a46 := Tryd.isAgg75
  z46 := Tryd.sizeOf75
  v46 := Tryd.zeroValue75
  t51 := Tryd.underlying100
  a51 := Tryd.isAgg100
  z51 := Tryd.sizeOf100
  v51 := Tryd.zeroValue100
  t105 := Tryd.underlying70
  a105 := Tryd.isAgg70
  z105 := Tryd.sizeOf70
  v105 := Tryd.zeroValue70
  t119 := Tryd.underlying93
  a119 := Tryd.isAgg93
  z119 := Tryd.sizeOf93
  t138 := Tryd.underlying95
  a138 := Tryd.isAgg95
  z138 := Tryd.sizeOf95
  v138 := Tryd.zeroValue95
  t139 := Tryd.underlying96
  a139 := Tryd.isAgg96
  z139 := Tryd.sizeOf96
  v139 := Tryd.zeroValue96
  t146 := Tryd.underlying101
  a146 := Tryd.isAgg101
  z146 := Tryd.sizeOf101
  v146 := Tryd.zeroValue101
  g1 := by kernel_rfl
  g3 := by kernel_rfl
  g4 := by kernel_rfl
  i0 := by kernel_rfl
  i3 := by kernel_rfl
  i4 := by kernel_rfl
  i5 := by kernel_rfl
  i9 := by kernel_rfl
  i21 := by kernel_rfl
  i31 := by kernel_rfl
  i46 := by kernel_rfl
  i51 := by kernel_rfl
  i105 := by kernel_rfl
  i138 := by kernel_rfl
  i139 := by kernel_rfl
  i146 := by kernel_rfl
  m1 := by kernel_rfl
  s1_3 := fun w h => Go.Proofs.cell_of_shapedOpen_int (zero := #[.int .i64 0]) (t := 3) h (of_decide_eq_true (by kernel_rfl)) (by kernel_rfl) rfl (by kernel_rfl) (by kernel_rfl) Tryd.underlying3
  m3 := by kernel_rfl
  m4 := by kernel_rfl }
open Go.RowKit Go.Lib in
theorem Tryd.strings_Split_shaped (s sep : ByteArray) (w : World) (h : w.ShapedOpen Tryd.prog) (hs : s.size < 4294967281) (h1 : 1 ≤ sep.size) :
    Calls Tryd.prog 45 #[.string s, .string sep] w fun e w' =>
      e = .returned (.slice (some ⟨w.heap.size, 0, none⟩) (Lib.countB s sep + 1) (Lib.countB s sep + 1)) ∧ w' = w.alloc (.cells ((Lib.splitB sep 0 (Lib.countB s sep) s).map Value.string).toArray 9) := Any.strings_Split_shaped Tryd.laysM146 s sep w h hs h1
def Tryd.laysM154_ren : Go.Shelf.Ren := ⟨fun | 154 => 35 | 138 => 52 | 165 => 53 | 143 => 54 | 166 => 38 | 197 => 55 | 169 => 41 | 195 => 65 | 218 => 66 | 240 => 58 | 241 => 67 | 219 => 68 | 260 => 69 | 276 => 71 | 277 => 78 | 217 => 74 | 225 => 79 | 224 => 80 | 267 => 81 | 266 => 85 | 314 => 87 | n => n, fun | 9 => 9 | 3 => 3 | 4 => 4 | 72 => 52 | 0 => 0 | 76 => 57 | 105 => 70 | 21 => 21 | 5 => 5 | 70 => 50 | 20 => 20 | 37 => 49 | 75 => 56 | 127 => 76 | 164 => 83 | 46 => 75 | 119 => 93 | 139 => 96 | 138 => 95 | 146 => 101 | 51 => 100 | 80 => 61 | n => n, fun | 1 => 0 | 3 => 1 | 4 => 2 | n => n⟩
theorem Tryd.laysM154 : Go.Proofs.LaysM.n154 Tryd.prog Tryd.laysM154_ren := {
  mixed := by kernel_rfl
  f138 := Tryd.func52.trans (congrArg some (by kernel_rfl))
  f143 := Tryd.func54.trans (congrArg some (by kernel_rfl))
  f154 := Tryd.func35.trans (congrArg some (by kernel_rfl))
  f165 := Tryd.func53.trans (congrArg some (by kernel_rfl))
  f166 := Tryd.func38.trans (congrArg some (by kernel_rfl))
  f169 := Tryd.func41.trans (congrArg some (by kernel_rfl))
  f195 := Tryd.func65.trans (congrArg some (by kernel_rfl))
  f197 := Tryd.func55.trans (congrArg some (by kernel_rfl))
  f217 := Tryd.func74.trans (congrArg some (by kernel_rfl))
  f218 := Tryd.func66.trans (congrArg some (by kernel_rfl))
  f219 := Tryd.func68.trans (congrArg some (by kernel_rfl))
  f224 := Tryd.func80.trans (congrArg some (by kernel_rfl))
  f225 := Tryd.func79.trans (congrArg some (by kernel_rfl))
  f240 := Tryd.func58.trans (congrArg some (by kernel_rfl))
  f241 := Tryd.func67.trans (congrArg some (by kernel_rfl))
  f260 := Tryd.func69.trans (congrArg some (by kernel_rfl))
  f266 := Tryd.func85.trans (congrArg some (by kernel_rfl))
  f267 := Tryd.func81.trans (congrArg some (by kernel_rfl))
  f276 := Tryd.func71.trans (congrArg some (by kernel_rfl))
  f277 := Tryd.func78.trans (congrArg some (by kernel_rfl))
  f314 := Tryd.func87.trans (congrArg some (by kernel_rfl))
  t0 := Tryd.underlying0
  a0 := Tryd.isAgg0
  z0 := Tryd.sizeOf0
  v0 := Tryd.zeroValue0
  t3 := Tryd.underlying3
  a3 := Tryd.isAgg3
  z3 := Tryd.sizeOf3
  v3 := Tryd.zeroValue3
  t4 := Tryd.underlying4
  a4 := Tryd.isAgg4
  z4 := Tryd.sizeOf4
  v4 := Tryd.zeroValue4
  t5 := Tryd.underlying5
  a5 := Tryd.isAgg5
  z5 := Tryd.sizeOf5
  v5 := Tryd.zeroValue5
  t9 := Tryd.underlying9
  a9 := Tryd.isAgg9
  z9 := Tryd.sizeOf9
  v9 := Tryd.zeroValue9
  t20 := Tryd.underlying20
  a20 := Tryd.isAgg20
  z20 := Tryd.sizeOf20
  v20 := Tryd.zeroValue20
  t21 := Tryd.underlying21
  a21 := Tryd.isAgg21
  z21 := Tryd.sizeOf21
  v21 := Tryd.zeroValue21
  t37 := Tryd.underlying49
  a37 := Tryd.isAgg49
  z37 := Tryd.sizeOf49
  v37 := Tryd.zeroValue49
  t46 := Tryd.underlying75
  a46 := Tryd.isAgg75
  z46 := Tryd.sizeOf75
  v46 := Tryd.zeroValue75
  t51 := Tryd.underlying100
  a51 := Tryd.isAgg100
  z51 := Tryd.sizeOf100
  v51 := Tryd.zeroValue100
  t70 := Tryd.underlying50
  a70 := Tryd.isAgg50
  z70 := Tryd.sizeOf50
  v70 := Tryd.zeroValue50
  t72 := Tryd.underlying52
  a72 := Tryd.isAgg52
  z72 := Tryd.sizeOf52
  v72 := Tryd.zeroValue52
  t75 := Tryd.underlying56
  a75 := Tryd.isAgg56
  z75 := Tryd.sizeOf56
  v75 := Tryd.zeroValue56
  t76 := Tryd.underlying57
  a76 := Tryd.isAgg57
  z76 := Tryd.sizeOf57
  v76 := Tryd.zeroValue57
  t105 := Tryd.underlying70
  a105 := Tryd.isAgg70
  z105 := Tryd.sizeOf70
  v105 := Tryd.zeroValue70
  t119 := Tryd.underlying93
  a119 := Tryd.isAgg93
  z119 := Tryd.sizeOf93
  t127 := Tryd.underlying76
  a127 := Tryd.isAgg76
  z127 := Tryd.sizeOf76
  v127 := Tryd.zeroValue76
  t138 := Tryd.underlying95
  a138 := Tryd.isAgg95
  z138 := Tryd.sizeOf95
  v138 := Tryd.zeroValue95
  t139 := Tryd.underlying96
  a139 := Tryd.isAgg96
  z139 := Tryd.sizeOf96
  v139 := Tryd.zeroValue96
  t146 := Tryd.underlying101
  a146 := Tryd.isAgg101
  z146 := Tryd.sizeOf101
  v146 := Tryd.zeroValue101
  t164 := Tryd.underlying83
  a164 := Tryd.isAgg83
  z164 := Tryd.sizeOf83
  v164 := Tryd.zeroValue83
  g1 := by kernel_rfl
  g3 := by kernel_rfl
  g4 := by kernel_rfl
  t80 := Tryd.underlying61
  a80 := Tryd.isAgg61
  z80 := Tryd.sizeOf61
  v80 := Tryd.zeroValue61
  i0 := by kernel_rfl
  i3 := by kernel_rfl
  i4 := by kernel_rfl
  i5 := by kernel_rfl
  i9 := by kernel_rfl
  i20 := by kernel_rfl
  i21 := by kernel_rfl
  i37 := by kernel_rfl
  i46 := by kernel_rfl
  i51 := by kernel_rfl
  i70 := by kernel_rfl
  i72 := by kernel_rfl
  i75 := by kernel_rfl
  i76 := by kernel_rfl
  i80 := by kernel_rfl
  i105 := by kernel_rfl
  i127 := by kernel_rfl
  i138 := by kernel_rfl
  i139 := by kernel_rfl
  i146 := by kernel_rfl
  i164 := by kernel_rfl
  m1 := by kernel_rfl
  s1_3 := fun w h => Go.Proofs.cell_of_shapedOpen_int (zero := #[.int .i64 0]) (t := 3) h (of_decide_eq_true (by kernel_rfl)) (by kernel_rfl) rfl (by kernel_rfl) (by kernel_rfl) Tryd.underlying3
  m3 := by kernel_rfl
  m4 := by kernel_rfl }
theorem Tryd.Builder_Extra_M154 : Builder.Extra Tryd.prog Tryd.laysM154_ren := {
  sizeBuilder := by kernel_rfl
  liesBuilder := by kernel_rfl
  t5 := Tryd.underlying5
  a5 := Tryd.isAgg5
  z5 := Tryd.sizeOf5
  v5 := Tryd.zeroValue5
  infoByte := by kernel_rfl
  cellsByte := by kernel_rfl
  sizeByte := by kernel_rfl
  neB5 := by decide }
open Go.RowKit Go.Lib in
theorem Tryd.strings_Replace_shaped (s old new : ByteArray) (n : Int) (w : World) (h : w.ShapedOpen Tryd.prog) (hs : s.size < 4294967281) (h1 : 1 ≤ old.size) (hlen : s.size + Lib.countB s old * new.size ≤ 140737488355328) :
    Calls Tryd.prog 35 #[.string s, .string old, .string new, .int .i64 n] w fun e w' =>
      e = .returned (.string ⟨(Lib.replace s.data.toList old.data.toList new.data.toList n).toArray⟩) ∧ Below w.heap.size w w' := Any.strings_Replace_shaped Tryd.laysM154 Tryd.Builder_Extra_M154 s old new n w h hs h1 hlen
def Tryd.laysM155_ren : Go.Shelf.Ren := ⟨fun | 155 => 24 | 154 => 35 | 138 => 52 | 165 => 53 | 143 => 54 | 166 => 38 | 197 => 55 | 169 => 41 | 195 => 65 | 218 => 66 | 240 => 58 | 241 => 67 | 219 => 68 | 260 => 69 | 276 => 71 | 277 => 78 | 217 => 74 | 225 => 79 | 224 => 80 | 267 => 81 | 266 => 85 | 314 => 87 | n => n, fun | 9 => 9 | 3 => 3 | 4 => 4 | 72 => 52 | 0 => 0 | 76 => 57 | 105 => 70 | 21 => 21 | 5 => 5 | 70 => 50 | 20 => 20 | 37 => 49 | 75 => 56 | 127 => 76 | 164 => 83 | 46 => 75 | 119 => 93 | 139 => 96 | 138 => 95 | 146 => 101 | 51 => 100 | 80 => 61 | n => n, fun | 1 => 0 | 3 => 1 | 4 => 2 | n => n⟩
theorem Tryd.laysM155 : Go.Proofs.LaysM.n155 Tryd.prog Tryd.laysM155_ren := {
  mixed := by kernel_rfl
  f138 := Tryd.func52.trans (congrArg some (by kernel_rfl))
  f143 := Tryd.func54.trans (congrArg some (by kernel_rfl))
  f154 := Tryd.func35.trans (congrArg some (by kernel_rfl))
  f155 := Tryd.func24.trans (congrArg some (by kernel_rfl))
  f165 := Tryd.func53.trans (congrArg some (by kernel_rfl))
  f166 := Tryd.func38.trans (congrArg some (by kernel_rfl))
  f169 := Tryd.func41.trans (congrArg some (by kernel_rfl))
  f195 := Tryd.func65.trans (congrArg some (by kernel_rfl))
  f197 := Tryd.func55.trans (congrArg some (by kernel_rfl))
  f217 := Tryd.func74.trans (congrArg some (by kernel_rfl))
  f218 := Tryd.func66.trans (congrArg some (by kernel_rfl))
  f219 := Tryd.func68.trans (congrArg some (by kernel_rfl))
  f224 := Tryd.func80.trans (congrArg some (by kernel_rfl))
  f225 := Tryd.func79.trans (congrArg some (by kernel_rfl))
  f240 := Tryd.func58.trans (congrArg some (by kernel_rfl))
  f241 := Tryd.func67.trans (congrArg some (by kernel_rfl))
  f260 := Tryd.func69.trans (congrArg some (by kernel_rfl))
  f266 := Tryd.func85.trans (congrArg some (by kernel_rfl))
  f267 := Tryd.func81.trans (congrArg some (by kernel_rfl))
  f276 := Tryd.func71.trans (congrArg some (by kernel_rfl))
  f277 := Tryd.func78.trans (congrArg some (by kernel_rfl))
  f314 := Tryd.func87.trans (congrArg some (by kernel_rfl))
  t0 := Tryd.underlying0
  a0 := Tryd.isAgg0
  z0 := Tryd.sizeOf0
  v0 := Tryd.zeroValue0
  t3 := Tryd.underlying3
  a3 := Tryd.isAgg3
  z3 := Tryd.sizeOf3
  v3 := Tryd.zeroValue3
  t4 := Tryd.underlying4
  a4 := Tryd.isAgg4
  z4 := Tryd.sizeOf4
  v4 := Tryd.zeroValue4
  t5 := Tryd.underlying5
  a5 := Tryd.isAgg5
  z5 := Tryd.sizeOf5
  v5 := Tryd.zeroValue5
  t9 := Tryd.underlying9
  a9 := Tryd.isAgg9
  z9 := Tryd.sizeOf9
  v9 := Tryd.zeroValue9
  t20 := Tryd.underlying20
  a20 := Tryd.isAgg20
  z20 := Tryd.sizeOf20
  v20 := Tryd.zeroValue20
  t21 := Tryd.underlying21
  a21 := Tryd.isAgg21
  z21 := Tryd.sizeOf21
  v21 := Tryd.zeroValue21
  t37 := Tryd.underlying49
  a37 := Tryd.isAgg49
  z37 := Tryd.sizeOf49
  v37 := Tryd.zeroValue49
  t46 := Tryd.underlying75
  a46 := Tryd.isAgg75
  z46 := Tryd.sizeOf75
  v46 := Tryd.zeroValue75
  t51 := Tryd.underlying100
  a51 := Tryd.isAgg100
  z51 := Tryd.sizeOf100
  v51 := Tryd.zeroValue100
  t70 := Tryd.underlying50
  a70 := Tryd.isAgg50
  z70 := Tryd.sizeOf50
  v70 := Tryd.zeroValue50
  t72 := Tryd.underlying52
  a72 := Tryd.isAgg52
  z72 := Tryd.sizeOf52
  v72 := Tryd.zeroValue52
  t75 := Tryd.underlying56
  a75 := Tryd.isAgg56
  z75 := Tryd.sizeOf56
  v75 := Tryd.zeroValue56
  t76 := Tryd.underlying57
  a76 := Tryd.isAgg57
  z76 := Tryd.sizeOf57
  v76 := Tryd.zeroValue57
  t105 := Tryd.underlying70
  a105 := Tryd.isAgg70
  z105 := Tryd.sizeOf70
  v105 := Tryd.zeroValue70
  t119 := Tryd.underlying93
  a119 := Tryd.isAgg93
  z119 := Tryd.sizeOf93
  t127 := Tryd.underlying76
  a127 := Tryd.isAgg76
  z127 := Tryd.sizeOf76
  v127 := Tryd.zeroValue76
  t138 := Tryd.underlying95
  a138 := Tryd.isAgg95
  z138 := Tryd.sizeOf95
  v138 := Tryd.zeroValue95
  t139 := Tryd.underlying96
  a139 := Tryd.isAgg96
  z139 := Tryd.sizeOf96
  v139 := Tryd.zeroValue96
  t146 := Tryd.underlying101
  a146 := Tryd.isAgg101
  z146 := Tryd.sizeOf101
  v146 := Tryd.zeroValue101
  t164 := Tryd.underlying83
  a164 := Tryd.isAgg83
  z164 := Tryd.sizeOf83
  v164 := Tryd.zeroValue83
  g1 := by kernel_rfl
  g3 := by kernel_rfl
  g4 := by kernel_rfl
  t80 := Tryd.underlying61
  a80 := Tryd.isAgg61
  z80 := Tryd.sizeOf61
  v80 := Tryd.zeroValue61
  i0 := by kernel_rfl
  i3 := by kernel_rfl
  i4 := by kernel_rfl
  i5 := by kernel_rfl
  i9 := by kernel_rfl
  i20 := by kernel_rfl
  i21 := by kernel_rfl
  i37 := by kernel_rfl
  i46 := by kernel_rfl
  i51 := by kernel_rfl
  i70 := by kernel_rfl
  i72 := by kernel_rfl
  i75 := by kernel_rfl
  i76 := by kernel_rfl
  i80 := by kernel_rfl
  i105 := by kernel_rfl
  i127 := by kernel_rfl
  i138 := by kernel_rfl
  i139 := by kernel_rfl
  i146 := by kernel_rfl
  i164 := by kernel_rfl
  m1 := by kernel_rfl
  s1_3 := fun w h => Go.Proofs.cell_of_shapedOpen_int (zero := #[.int .i64 0]) (t := 3) h (of_decide_eq_true (by kernel_rfl)) (by kernel_rfl) rfl (by kernel_rfl) (by kernel_rfl) Tryd.underlying3
  m3 := by kernel_rfl
  m4 := by kernel_rfl }
theorem Tryd.Builder_Extra_M155 : Builder.Extra Tryd.prog Tryd.laysM155_ren := {
  sizeBuilder := by kernel_rfl
  liesBuilder := by kernel_rfl
  t5 := Tryd.underlying5
  a5 := Tryd.isAgg5
  z5 := Tryd.sizeOf5
  v5 := Tryd.zeroValue5
  infoByte := by kernel_rfl
  cellsByte := by kernel_rfl
  sizeByte := by kernel_rfl
  neB5 := by decide }
open Go.RowKit Go.Lib in
theorem Tryd.strings_ReplaceAll_shaped (s old new : ByteArray) (w : World) (h : w.ShapedOpen Tryd.prog) (hs : s.size < 4294967281) (h1 : 1 ≤ old.size) (hlen : s.size + Lib.countB s old * new.size ≤ 140737488355328) :
    Calls Tryd.prog 24 #[.string s, .string old, .string new] w fun e w' =>
      e = .returned (.string ⟨(Lib.replaceAll s.data.toList old.data.toList new.data.toList).toArray⟩) ∧ Below w.heap.size w w' := Any.strings_ReplaceAll_shaped Tryd.laysM155 Tryd.Builder_Extra_M155 s old new w h hs h1 hlen
def Tryd.lays197_ren : Go.Shelf.Ren := ⟨fun | 197 => 55 | 260 => 69 | n => n, fun | 9 => 9 | 21 => 21 | 3 => 3 | 4 => 4 | 5 => 5 | 105 => 70 | 119 => 93 | 0 => 0 | 46 => 75 | 139 => 96 | 138 => 95 | n => n, fun | 3 => 1 | 4 => 2 | n => n⟩
theorem Tryd.lays197 : Go.Proofs.Lays.n197 Tryd.prog Tryd.lays197_ren := {
  mixed := by kernel_rfl
  f197 := Tryd.func55.trans (congrArg some (by kernel_rfl))
  f260 := Tryd.func69.trans (congrArg some (by kernel_rfl))
  t0 := Tryd.underlying0
  a0 := Tryd.isAgg0
  z0 := Tryd.sizeOf0
  v0 := Tryd.zeroValue0
  t3 := Tryd.underlying3
  a3 := Tryd.isAgg3
  z3 := Tryd.sizeOf3
  v3 := Tryd.zeroValue3
  t4 := Tryd.underlying4
  a4 := Tryd.isAgg4
  z4 := Tryd.sizeOf4
  v4 := Tryd.zeroValue4
  t5 := Tryd.underlying5
  a5 := Tryd.isAgg5
  z5 := Tryd.sizeOf5
  v5 := Tryd.zeroValue5
  t9 := Tryd.underlying9
  a9 := Tryd.isAgg9
  z9 := Tryd.sizeOf9
  v9 := Tryd.zeroValue9
  t21 := Tryd.underlying21
  a21 := Tryd.isAgg21
  z21 := Tryd.sizeOf21
  v21 := Tryd.zeroValue21
  t46 := Tryd.underlying75
  a46 := Tryd.isAgg75
  z46 := Tryd.sizeOf75
  v46 := Tryd.zeroValue75
  t105 := Tryd.underlying70
  a105 := Tryd.isAgg70
  z105 := Tryd.sizeOf70
  v105 := Tryd.zeroValue70
  t119 := Tryd.underlying93
  a119 := Tryd.isAgg93
  z119 := Tryd.sizeOf93
  t138 := Tryd.underlying95
  a138 := Tryd.isAgg95
  z138 := Tryd.sizeOf95
  v138 := Tryd.zeroValue95
  t139 := Tryd.underlying96
  a139 := Tryd.isAgg96
  z139 := Tryd.sizeOf96
  v139 := Tryd.zeroValue96
  g3 := by kernel_rfl
  g4 := by kernel_rfl }
open Go.RowKit Go.Lib in
theorem Tryd.utf8_DecodeRuneInString_ascii (s : ByteArray) (x : UInt8) (w : World) (h0 : s.data.toList[0]? = some x) (hx : x.toNat < 128) :
    Calls Tryd.prog 55 #[.string s] w fun e w' => e = .returned (.tuple #[.int .i32 x.toNat, .int .i64 1]) ∧ w' = w := Any.utf8_DecodeRuneInString_ascii Tryd.lays197 s x w h0 hx
open Go.RowKit Go.Lib in
theorem Tryd.utf8_RuneCountInString_ascii (s : ByteArray) (w : World) (hs : s.size < 4294967281) (hascii : ∀ (j : Nat) b, s.data.toList[j]? = some b → b.toNat < 128) :
    Calls Tryd.prog 65 #[.string s] w fun e w' => e = .returned (.int .i64 s.size) ∧ w' = w.iter s s.size := Any.utf8_RuneCountInString_ascii Tryd.lays195 s w hs hascii
def Tryd.lays268_ren : Go.Shelf.Ren := ⟨fun | 268 => 75 | 195 => 65 | 197 => 55 | 260 => 69 | n => n, fun | 9 => 9 | 3 => 3 | 31 => 63 | 4 => 4 | 105 => 70 | 21 => 21 | 0 => 0 | 5 => 5 | 119 => 93 | 46 => 75 | 139 => 96 | 138 => 95 | n => n, fun | 3 => 1 | 4 => 2 | n => n⟩
theorem Tryd.lays268 : Go.Proofs.Lays.n268 Tryd.prog Tryd.lays268_ren := {
  mixed := by kernel_rfl
  f195 := Tryd.func65.trans (congrArg some (by kernel_rfl))
  f197 := Tryd.func55.trans (congrArg some (by kernel_rfl))
  f260 := Tryd.func69.trans (congrArg some (by kernel_rfl))
  f268 := Tryd.func75.trans (congrArg some (by kernel_rfl))
  t0 := Tryd.underlying0
  a0 := Tryd.isAgg0
  z0 := Tryd.sizeOf0
  v0 := Tryd.zeroValue0
  t3 := Tryd.underlying3
  a3 := Tryd.isAgg3
  z3 := Tryd.sizeOf3
  v3 := Tryd.zeroValue3
  t4 := Tryd.underlying4
  a4 := Tryd.isAgg4
  z4 := Tryd.sizeOf4
  v4 := Tryd.zeroValue4
  t5 := Tryd.underlying5
  a5 := Tryd.isAgg5
  z5 := Tryd.sizeOf5
  v5 := Tryd.zeroValue5
  t9 := Tryd.underlying9
  a9 := Tryd.isAgg9
  z9 := Tryd.sizeOf9
  v9 := Tryd.zeroValue9
  t21 := Tryd.underlying21
  a21 := Tryd.isAgg21
  z21 := Tryd.sizeOf21
  v21 := Tryd.zeroValue21
  t31 := Tryd.underlying63
  a31 := Tryd.isAgg63
  z31 := Tryd.sizeOf63
  v31 := Tryd.zeroValue63
  t46 := Tryd.underlying75
  a46 := Tryd.isAgg75
  z46 := Tryd.sizeOf75
  v46 := Tryd.zeroValue75
  t105 := Tryd.underlying70
  a105 := Tryd.isAgg70
  z105 := Tryd.sizeOf70
  v105 := Tryd.zeroValue70
  t119 := Tryd.underlying93
  a119 := Tryd.isAgg93
  z119 := Tryd.sizeOf93
  t138 := Tryd.underlying95
  a138 := Tryd.isAgg95
  z138 := Tryd.sizeOf95
  v138 := Tryd.zeroValue95
  t139 := Tryd.underlying96
  a139 := Tryd.isAgg96
  z139 := Tryd.sizeOf96
  v139 := Tryd.zeroValue96
  g3 := by kernel_rfl
  g4 := by kernel_rfl }
open Go.RowKit Go.Lib in
theorem Tryd.strings_explode_all (s : ByteArray) (n : Int) (w : World) (hn : n < 0) (hs : s.size < 4294967281) (hascii : ∀ (j : Nat) b, s.data.toList[j]? = some b → b.toNat < 128) :
    Calls Tryd.prog 75 #[.string s, .int .i64 n] w fun e w' =>
      e = .returned (.slice (some ⟨(w.iter s s.size).heap.size, 0, none⟩) s.size s.size) ∧ w' = (w.iter s s.size).alloc (.cells ((Lib.charsB s).map Value.string).toArray 9) := Any.strings_explode_all Tryd.lays268 (by kernel_rfl) s n w hn hs hascii
open Go.RowKit Go.Lib in
theorem Tryd.strings_genSplit_chars (s sep : ByteArray) (sv n : Int) (w : World) (h0 : sep.size = 0) (hn : n < 0) (hs : s.size < 4294967281) (hascii : ∀ (j : Nat) b, s.data.toList[j]? = some b → b.toNat < 128) :
    Calls Tryd.prog 63 #[.string s, .string sep, .int .i64 sv, .int .i64 n] w fun e w' =>
      e = .returned (.slice (some ⟨(w.iter s s.size).heap.size, 0, none⟩) s.size s.size) ∧ w' = (w.iter s s.size).alloc (.cells ((Lib.charsB s).map Value.string).toArray 9) := Any.strings_genSplit_chars Tryd.lays221 (by kernel_rfl) s sep sv n w h0 hn hs hascii
open Go.RowKit Go.Lib in
theorem Tryd.strings_Split_chars (s sep : ByteArray) (w : World) (h0 : sep.size = 0) (hs : s.size < 4294967281) (hascii : ∀ (j : Nat) b, s.data.toList[j]? = some b → b.toNat < 128) :
    Calls Tryd.prog 45 #[.string s, .string sep] w fun e w' =>
      e = .returned (.slice (some ⟨(w.iter s s.size).heap.size, 0, none⟩) s.size s.size) ∧ w' = (w.iter s s.size).alloc (.cells ((Lib.charsB s).map Value.string).toArray 9) := Any.strings_Split_chars Tryd.lays146 (by kernel_rfl) s sep w h0 hs hascii
def Tryd.lays260_ren : Go.Shelf.Ren := ⟨fun | 260 => 69 | n => n, fun | 9 => 9 | 21 => 21 | 3 => 3 | 4 => 4 | 5 => 5 | 119 => 93 | 0 => 0 | 46 => 75 | 139 => 96 | 138 => 95 | n => n, fun | 3 => 1 | 4 => 2 | n => n⟩
theorem Tryd.lays260 : Go.Proofs.Lays.n260 Tryd.prog Tryd.lays260_ren := {
  mixed := by kernel_rfl
  f260 := Tryd.func69.trans (congrArg some (by kernel_rfl))
  t0 := Tryd.underlying0
  a0 := Tryd.isAgg0
  z0 := Tryd.sizeOf0
  v0 := Tryd.zeroValue0
  t3 := Tryd.underlying3
  a3 := Tryd.isAgg3
  z3 := Tryd.sizeOf3
  v3 := Tryd.zeroValue3
  t4 := Tryd.underlying4
  a4 := Tryd.isAgg4
  z4 := Tryd.sizeOf4
  v4 := Tryd.zeroValue4
  t5 := Tryd.underlying5
  a5 := Tryd.isAgg5
  z5 := Tryd.sizeOf5
  v5 := Tryd.zeroValue5
  t9 := Tryd.underlying9
  a9 := Tryd.isAgg9
  z9 := Tryd.sizeOf9
  v9 := Tryd.zeroValue9
  t21 := Tryd.underlying21
  a21 := Tryd.isAgg21
  z21 := Tryd.sizeOf21
  v21 := Tryd.zeroValue21
  t46 := Tryd.underlying75
  a46 := Tryd.isAgg75
  z46 := Tryd.sizeOf75
  v46 := Tryd.zeroValue75
  t119 := Tryd.underlying93
  a119 := Tryd.isAgg93
  z119 := Tryd.sizeOf93
  t138 := Tryd.underlying95
  a138 := Tryd.isAgg95
  z138 := Tryd.sizeOf95
  v138 := Tryd.zeroValue95
  t139 := Tryd.underlying96
  a139 := Tryd.isAgg96
  z139 := Tryd.sizeOf96
  v139 := Tryd.zeroValue96
  g3 := by kernel_rfl
  g4 := by kernel_rfl }
open Go.RowKit Go.Lib in
theorem Tryd.utf8_decodeRuneInStringSlow (s : ByteArray) (w : World) (hT : Lib.Utf8Tabs 1 2 w) :
    Calls Tryd.prog 69 #[.string s] w fun e w' => e = .returned (.tuple #[.int .i32 (Lib.decodeGo s).1, .int .i64 (Lib.decodeGo s).2]) ∧ Below w.heap.size w w' := Any.utf8_decodeRuneInStringSlow Tryd.lays260 s w hT
open Go.RowKit Go.Lib in
theorem Tryd.utf8_DecodeRuneInString (s : ByteArray) (w : World) (hT : Lib.Utf8Tabs 1 2 w) :
    Calls Tryd.prog 55 #[.string s] w fun e w' => e = .returned (.tuple #[.int .i32 (Lib.decodeGo s).1, .int .i64 (Lib.decodeGo s).2]) ∧ Below w.heap.size w w' := Any.utf8_DecodeRuneInString Tryd.lays197 s w hT
end Go.Proofs

/- strings.Cut and strings.Split at a separator of one byte, strings.TrimSuffix, strings.IndexByte at this translation: for every text; nothing of the library's variables is read. -/
set_option linter.unusedVariables false
set_option linter.unusedSimpArgs false
namespace Go.Proofs.YtnaimienfgpgmaaDoor.Strs
open Go.RowKit

/-- What stands ahead of the first c, and behind it. -/
def foreB (c : UInt8) (l : List UInt8) : List UInt8 := l.takeWhile (· != c)
def aftB (c : UInt8) (l : List UInt8) : List UInt8 := (l.dropWhile (· != c)).tail
theorem parts : ∀ (c : UInt8) (l : List UInt8), (l.contains c = true ∧ Lib.indexByte l c = ((foreB c l).length : Int) ∧ l = foreB c l ++ c :: aftB c l) ∨ (l.contains c = false ∧ Lib.indexByte l c = -1 ∧ foreB c l = l ∧ aftB c l = [])
  | c, [] => .inr ⟨rfl, rfl, rfl, rfl⟩
  | c, x :: l => by
    by_cases h : x = c
    · subst h
      left
      refine ⟨by simp, by simp [Lib.indexByte, foreB], by simp [foreB, aftB]⟩
    · have hne : (x != c) = true := by rw [bne_iff_ne]; exact h
      have hne2 : (x == c) = false := by rw [beq_eq_false_iff_ne]; exact h
      have ha : foreB c (x :: l) = x :: foreB c l := by simp [foreB, hne]
      have hb : aftB c (x :: l) = aftB c l := by simp [aftB, hne]
      have hcx : (x :: l).contains c = l.contains c := by simp [List.contains_cons, Ne.symm h]
      have hi : Lib.indexByte (x :: l) c = if Lib.indexByte l c == -1 then -1 else Lib.indexByte l c + 1 := by simp [Lib.indexByte, hne2]
      rcases parts c l with ⟨h1, h2, h3⟩ | ⟨h1, h2, h3, h4⟩
      · left
        refine ⟨by rw [hcx, h1], ?_, by rw [ha, hb, List.cons_append, ← h3]⟩
        rw [hi, ha, h2, if_neg (by rw [beq_iff_eq]; omega), List.length_cons]; omega
      · right
        exact ⟨by rw [hcx, h1], by rw [hi, h2]; rfl, by rw [ha, h3], by rw [hb, h4]⟩
theorem foreB_le (c : UInt8) (l : List UInt8) : (foreB c l).length ≤ l.length := by
  rcases parts c l with ⟨_, _, h⟩ | ⟨_, _, h, _⟩
  · have := congrArg List.length h
    rw [List.length_append, List.length_cons] at this; omega
  · rw [h]; omega

theorem cut_at (c : UInt8) (A B L : List UInt8) (h : L = A ++ c :: B) : L.take A.length = A ∧ L.drop (A.length + 1) = B := by
  subst h
  refine ⟨by simp, ?_⟩
  rw [List.drop_append]; simp
/-- What Cut gives. -/
def cutV (c : UInt8) (s : ByteArray) : Value := .tuple #[.string ⟨(foreB c s.data.toList).toArray⟩, .string ⟨(aftB c s.data.toList).toArray⟩, .bool (s.data.toList.contains c)]

theorem TrimSuffix_one (c : UInt8) (s : ByteArray) (hs : s.size ≤ 140737488355328) (w : World) :
    Calls Tryd.prog 60 #[.string s, .string ⟨#[c]⟩] w fun e w' => e = .returned (.string ⟨(if s.data.toList.getLast? = some c then s.data.toList.dropLast else s.data.toList).toArray⟩) ∧ w = w' := by
  refine (Tryd.strings_TrimSuffix s ⟨#[c]⟩ w (by omega)).mono ?_
  rintro e w' ⟨rfl, rfl⟩
  refine ⟨?_, rfl⟩
  unfold Lib.trimSuffix Lib.hasSuffix
  generalize s.data.toList = l
  rcases List.eq_nil_or_concat l with rfl | ⟨l', x, rfl⟩
  · simp
  · by_cases h : x = c
    · subst h
      simp
    · have : ([c] : List UInt8).isSuffixOf (l' ++ [x]) = false := by
        rw [Bool.eq_false_iff]; intro hp
        have := List.isSuffixOf_iff_suffix.1 hp
        obtain ⟨t, ht⟩ := this
        have := (List.append_inj' ht rfl).2
        simp at this; exact h this.symm
      simp [this, h]

theorem IndexByte_has (s : ByteArray) (c : UInt8) (n : Int) (hn : n = (c.toNat : Int)) (w : World) :
    Calls Tryd.prog 62 #[.string s, .int .u8 n] w fun e w' => (∃ k : Int, e = .returned (.int .i64 k) ∧ (decide (0 ≤ k)) = s.data.toList.contains c) ∧ w = w' := by
  subst hn
  refine (Tryd.strings_IndexByte s _ w).mono ?_
  rintro e w' ⟨rfl, rfl⟩
  refine ⟨⟨_, rfl, ?_⟩, rfl⟩
  rw [show ((c.toNat : Int)).toNat.toUInt8 = c from by simp]
  rcases parts c s.data.toList with ⟨h1, h2, _⟩ | ⟨h1, h2, _⟩
  · rw [h1, h2]; simp
  · rw [h1, h2]; rfl

/-- The pieces between the bytes c. -/
def pieces (c : UInt8) : List UInt8 → List (List UInt8)
  | [] => [[]]
  | x :: l => if x = c then [] :: pieces c l else match pieces c l with | p :: ps => (x :: p) :: ps | [] => [[x]]
theorem pieces_ne (c : UInt8) : ∀ l, pieces c l ≠ []
  | [] => by simp [pieces]
  | x :: l => by
    simp only [pieces]
    split
    · simp
    · split <;> simp
theorem pieces_len (c : UInt8) : ∀ l, (pieces c l).length = Lib.countByte l c + 1
  | [] => rfl
  | x :: l => by
    have ih := pieces_len c l
    simp only [pieces, Lib.countByte, List.count_cons]
    by_cases h : x = c
    · rw [if_pos h, List.length_cons, ih, Lib.countByte]; simp [h]
    · rw [if_neg h]
      have hx : (x == c) = false := by rw [beq_eq_false_iff_ne]; exact h
      rw [hx]
      split
      · rename_i p ps hp
        rw [hp] at ih
        simpa [Lib.countByte] using ih
      · rename_i hp
        exact absurd hp (pieces_ne c l)
theorem pieces_no (c : UInt8) : ∀ l, l.contains c = false → pieces c l = [l]
  | [], _ => rfl
  | x :: l, h => by
    simp only [List.contains_cons, Bool.or_eq_false_iff] at h
    simp only [pieces]
    rw [if_neg (by intro e; rw [e] at h; simp at h), pieces_no c l h.2]
theorem pieces_yes (c : UInt8) : ∀ A B, A.contains c = false → pieces c (A ++ c :: B) = A :: pieces c B
  | [], B, _ => by simp [pieces]
  | x :: A, B, h => by
    simp only [List.contains_cons, Bool.or_eq_false_iff] at h
    simp only [List.cons_append, pieces]
    rw [if_neg (by intro e; rw [e] at h; simp at h), pieces_yes c A B h.2]
theorem foreB_no (c : UInt8) (l : List UInt8) : (foreB c l).contains c = false := by
  induction l with
  | nil => rfl
  | cons x l ih =>
    by_cases h : x = c
    · subst h; simp [foreB]
    · have hne : (x != c) = true := by rw [bne_iff_ne]; exact h
      have ha : foreB c (x :: l) = x :: foreB c l := by simp [foreB, hne]
      rw [ha, List.contains_cons, ih]
      simp; exact fun e => h e.symm

/-- A row of strings of the call's own. -/
def StrsAt (g : Nat) (ps : List (List UInt8)) (w : World) : Prop := ∀ j (h : j < ps.length), w.cell? ⟨g, j, none⟩ = some (.string ⟨(ps[j]).toArray⟩)
def str (p : List UInt8) : Value := .string ⟨p.toArray⟩

theorem info_str : (Tryd.prog.info? 9).map (fun i => (i.zero, i.size, i.bytes)) = some (some (.string ⟨#[]⟩), 1, 16) := by kernel_rfl

set_option maxRecDepth 100000 in
set_option maxHeartbeats 2000000 in
theorem genSplit_one (c : UInt8) (s : ByteArray) (hs : s.size ≤ 140737488355) (w : World) :
    Calls Tryd.prog 63 #[.string s, .string ⟨#[c]⟩, .int .i64 0, .int .i64 (-1)] w fun e w' => ∃ g, e = .returned (.slice (some ⟨g, 0, none⟩) (pieces c s.data.toList).length (pieces c s.data.toList).length) ∧ Below w.heap.size w w' ∧ StrsAt g (pieces c s.data.toList) w' := by
  obtain ⟨i0, hi, hz0, hz1, hz2⟩ := info_parts info_str
  have hpl := pieces_len c s.data.toList
  have hcl : Lib.countByte s.data.toList c ≤ s.size := by
    unfold Lib.countByte
    have := List.count_le_length (a := c) (l := s.data.toList)
    rw [U.len_data] at this; exact this
  obtain ⟨n, hn⟩ : ∃ n, n = Lib.countByte s.data.toList c := ⟨_, rfl⟩
  rw [← hn] at hpl hcl
  have HP := Lib.hid hpl; clear hpl
  go_enter Tryd.func63, Tryd.ntmps63
  go_wp2_with fail
  refine (Tryd.strings_Count_one s c _).mono ?_
  rintro e w' ⟨rfl, hw⟩
  rw [hw, ← hn]
  have HNC := Lib.hid hn
  clear hw hn
  have hmin : min (n : Int) (s.size : Int) = (n : Int) := by omega
  go_wp2_with (refine wpList_make_full _ rfl (.tmp 30) (.tmp 30) 63 rfl w.heap.size 9 i0 (.string ⟨#[]⟩) 1 Tryd.underlying63 hi hz0 hz1 .i64 .i64 ((n : Int) + 1) ((n : Int) + 1) (n + 1) rfl rfl (by omega) (by omega) (by rw [hz2]; omega) (by unfold maxLen; omega) (Nat.le_refl _) ?_)
  intro w1 hown hgrow
  clear hmin
  have hb1 : Below w.heap.size w w1 := (Below.refl _ _).grown hgrow (Nat.le_refl _) (by intro k hk; cases hk)
  have hsz1 := hb1.size
  obtain ⟨xs, hxs⟩ : ∃ xs, xs = (madeCells #[Value.string ⟨#[]⟩] (n + 1)).toList := ⟨_, rfl⟩
  rw [← hxs] at hown
  have hxl : xs.length = n + 1 := by have := hown.1; omega
  have HXL := Lib.hid hxl
  have HOWN := Lib.hid hown
  clear hxs hgrow hxl hown
  go_wp2
  go_loopw [0, 10] (fun t i wr => ∃ (r : ByteArray) (k : Nat) (done : List (List UInt8)) (xs : List Value), k ≤ n ∧ t = .string r ∧ i = .int .i64 k ∧ r.size ≤ s.size ∧ Hid (k + Lib.countByte r.data.toList c = n ∧ pieces c s.data.toList = done ++ pieces c r.data.toList ∧ done.length = k ∧ xs.length = n + 1 ∧ xs.take k = done.map str) ∧
      Hid (wr.ownsRow w.heap.size 9 1 (.slice (some ⟨w.heap.size, 0, none⟩) (n + 1) (n + 1)) (n + 1) xs) ∧ Below w.heap.size w wr) (fun _ i _ => n - (intOf i).toNat)
  case atStart => exact ⟨s, 0, [], xs, by omega, rfl, rfl, Nat.le_refl _, Lib.hid ⟨by rw [HNC.out]; omega, rfl, rfl, HXL.out, rfl⟩, HOWN, hb1⟩
  case round =>
    obtain ⟨r, k, done, xs, hk, rfl, rfl, hrs, HR, HO, hbw⟩ := hrel
    by_cases hlt : k < n
    · have hcnt : 0 < Lib.countByte r.data.toList c := by have := HR.out.1; omega
      have hcon : r.data.toList.contains c = true := by
        rw [List.contains_iff_mem]; exact List.count_pos_iff.1 hcnt
      rcases parts c r.data.toList with ⟨h1, h2, h3⟩ | ⟨h1, _⟩
      · have hlen := congrArg List.length h3
        rw [U.len_data, List.length_append, List.length_cons] at hlen
        obtain ⟨m, hm⟩ : ∃ m, m = (foreB c r.data.toList).length := ⟨_, rfl⟩
        rw [← hm] at hlen h2
        have hm1 : m + 1 ≤ r.size := by omega
        have H3 := Lib.hid h3
        have HM := Lib.hid hm
        clear hlen h3 hm hcon hcnt h1
        have hfz := HO.out.frozenAt k
        have hce := HO.out.cellAt k (by omega)
        obtain ⟨old, hold⟩ : ∃ v, xs[k]? = some v := ⟨xs[k]'(by have := HR.out.2.2.2.1; omega), List.getElem?_eq_getElem _⟩
        rw [hold] at hce
        clear hold
        go_wp2_with fail
        refine (Tryd.strings_Index_one r c _).mono ?_
        rintro e w' ⟨rfl, hw⟩
        rw [hw, h2]
        clear hw h2
        go_wp2
        go_roundw
        case rel =>
          have hst := HO.out.stored k (.string (r.extract 0 m))
          obtain ⟨e1, e2, e3, e4, e5⟩ := HR.out
          have hp : (r.extract 0 m) = ⟨(foreB c r.data.toList).toArray⟩ := U.mk_data _ _ (by rw [U.take_data, HM.out]; exact (cut_at c _ _ _ H3.out).1)
          have hq : (r.extract (m + 1) r.size).data.toList = aftB c r.data.toList := by rw [U.drop_data, HM.out]; exact (cut_at c _ _ _ H3.out).2
          refine ⟨r.extract (m + 1) r.size, k + 1, done ++ [foreB c r.data.toList], xs.set k (.string (r.extract 0 m)), by omega, rfl, by go_num, by rw [ByteArray.size_extract]; omega, Lib.hid ⟨?_, ?_, ?_, ?_, ?_⟩, Lib.hid hst.1, hbw.grown hst.2 hbw.size (by intro q hq; cases hq; exact Nat.le_refl _)⟩
          · rw [hq]
            have h4 : Lib.countByte r.data.toList c = Lib.countByte (aftB c r.data.toList) c + 1 := by
              have hz : Lib.countByte (foreB c r.data.toList) c = 0 := List.count_eq_zero.2 (by
                have := foreB_no c r.data.toList
                rw [← List.contains_iff_mem, this]; simp)
              unfold Lib.countByte at hz ⊢
              conv => lhs; rw [H3.out]
              rw [List.count_append, hz, List.count_cons]; simp
            omega
          · rw [e2, hq]
            conv => lhs; rw [H3.out]
            rw [pieces_yes c _ _ (foreB_no c _)]; simp
          · rw [List.length_append, e3]; rfl
          · rw [List.length_set]; exact e4
          · rw [List.take_succ_eq_append_getElem (by rw [List.length_set]; omega), List.getElem_set_self, List.take_set_of_le (Nat.le_refl _), e5, List.map_append, hp]; rfl
        case measure => simp [intOf]; omega
      · rw [hcon] at h1; cases h1
    · have hkn : k = n := by omega
      have hno : r.data.toList.contains c = false := by
        have h0 : Lib.countByte r.data.toList c = 0 := by have := HR.out.1; omega
        rw [Bool.eq_false_iff]; intro hc
        exact List.count_eq_zero.1 h0 (List.contains_iff_mem.1 hc)
      have hfz := HO.out.frozenAt k
      have hce := HO.out.cellAt k (by omega)
      obtain ⟨old, hold⟩ : ∃ v, xs[k]? = some v := ⟨xs[k]'(by have := HR.out.2.2.2.1; omega), List.getElem?_eq_getElem _⟩
      rw [hold] at hce
      have HNO := Lib.hid hno
      have HKN := Lib.hid hkn
      clear hold hno hkn
      go_wp2
      go_ret
      have hst := HO.out.stored k (.string r)
      obtain ⟨e1, e2, e3, e4, e5⟩ := HR.out
      have hpp : pieces c s.data.toList = done ++ [r.data.toList] := by rw [e2, pieces_no c _ HNO.out]
      refine ⟨w.heap.size, ?_, hbw.grown hst.2 hbw.size (by intro q hq; cases hq; exact Nat.le_refl _), ?_⟩
      · obtain rfl : k = n := HKN.out
        rw [HP.out]; rfl
      · intro j hj
        rw [hst.1.cellAt j (by rw [HP.out] at hj; omega)]
        have hall : xs.set k (.string r) = (pieces c s.data.toList).map str := by
          rw [hpp, List.map_append, ← e5]
          apply List.ext_getElem
          · rw [List.length_set, List.length_append, List.length_take, e4]; simp; have := HKN.out; omega
          · intro i h1 h2
            rw [List.getElem_set]
            split
            · rename_i hki
              subst hki
              rw [List.getElem_append_right (by rw [List.length_take]; omega)]
              simp [List.length_take, e4, str]
            · rename_i hki
              rw [List.length_set, e4] at h1
              have := HKN.out
              rw [List.getElem_append_left (by rw [List.length_take]; omega), List.getElem_take]
        rw [hall, List.getElem?_map, List.getElem?_eq_getElem hj]; rfl


theorem Split_one (c : UInt8) (s : ByteArray) (hs : s.size ≤ 140737488355) (w : World) :
    Calls Tryd.prog 45 #[.string s, .string ⟨#[c]⟩] w fun e w' => ∃ g, e = .returned (.slice (some ⟨g, 0, none⟩) (pieces c s.data.toList).length (pieces c s.data.toList).length) ∧ Below w.heap.size w w' ∧ StrsAt g (pieces c s.data.toList) w' := by
  obtain ⟨ps, hps⟩ : ∃ ps, ps = pieces c s.data.toList := ⟨_, rfl⟩
  have HG := fun w => genSplit_one c s hs w
  rw [← hps] at HG ⊢
  have HG2 := Lib.hid HG
  clear HG hps
  go_enter Tryd.func45, Tryd.ntmps45
  go_wp2_with fail
  refine (HG2.out _).mono ?_
  rintro e w' ⟨g, rfl, hb, hq⟩
  go_wp2
  go_ret
  exact ⟨g, rfl, hb, hq⟩

end Go.Proofs.YtnaimienfgpgmaaDoor.Strs

/- strings.ReplaceAll at one byte that is taken out, at this translation: the text without that byte. -/
set_option linter.unusedVariables false
set_option linter.unusedSimpArgs false
namespace Go.Proofs.YtnaimienfgpgmaaDoor.Rep
open Go.RowKit Go.Shelf Strs

/-- A text without a byte. -/
def without (c : UInt8) (l : List UInt8) : List UInt8 := l.filter (· != c)
theorem without_no (c : UInt8) (l : List UInt8) (h : Lib.countByte l c = 0) : without c l = l := by
  unfold without
  rw [List.filter_eq_self]
  intro x hx
  rw [bne_iff_ne]
  rintro rfl
  unfold Lib.countByte at h
  rw [List.count_eq_zero] at h
  exact h hx
theorem without_at (c : UInt8) (A B : List UInt8) (hA : ∀ x ∈ A, x ≠ c) : without c (A ++ c :: B) = A ++ without c B := by
  unfold without
  rw [List.filter_append, List.filter_cons]
  simp
  intro x hx; exact hA x hx
theorem foreB_ne (c : UInt8) (l : List UInt8) : ∀ x ∈ foreB c l, x ≠ c := by
  intro x hx
  have := List.all_takeWhile (p := fun y => y != c) (l := l)
  rw [List.all_eq_true] at this
  have h := this x hx
  rw [bne_iff_ne] at h
  exact h
theorem count_at (c : UInt8) (A B : List UInt8) (hA : ∀ x ∈ A, x ≠ c) : Lib.countByte (A ++ c :: B) c = Lib.countByte B c + 1 := by
  unfold Lib.countByte
  rw [List.count_append, List.count_cons]
  have : List.count c A = 0 := by rw [List.count_eq_zero]; intro h; exact hA c h rfl
  rw [this]; simp
theorem count_le (c : UInt8) (l : List UInt8) : Lib.countByte l c ≤ l.length := List.count_le_length

set_option maxHeartbeats 4000000 in
set_option maxRecDepth 100000 in
theorem Replace_some (s o nw : ByteArray) (c : UInt8) (hs : s.size ≤ 68719476736) (HC : Hid (∀ w, Calls Tryd.prog 52 #[.string s, .string o] w fun e w' => e = .returned (.int .i64 (Lib.countByte s.data.toList c)) ∧ w' = w))
    (HI : Hid (∀ t w, Calls Tryd.prog 54 #[.string t, .string o] w fun e w' => e = .returned (.int .i64 (Lib.indexByte t.data.toList c)) ∧ w' = w)) (ho : o.size = 1) (hn : nw.size = 0)
    (K : Nat) (hK : Lib.countByte s.data.toList c = K) (h0 : 0 < K) (w : World) :
    Calls Tryd.prog 35 #[.string s, .string o, .string nw, .int .i64 (-1)] w fun e w' => e = .returned (.string ⟨(without c s.data.toList).toArray⟩) ∧ Below w.heap.size w w' := by
  have hKs : K ≤ s.size := by rw [← hK, ← U.len_data]; exact count_le c _
  have hbeq : (o.toList == nw.toList) = false := by
    rw [beq_eq_false_iff_ne]; intro h
    have := congrArg List.length h
    rw [Lib.toList_data, Lib.toList_data, U.len_data, U.len_data] at this; omega
  have hcz : ((K : Int) == 0) = false := beq_eq_false_iff_ne.2 (by omega)
  have hod : decide (0 < o.size) = true := decide_eq_true (by omega)
  have hnwl : nw.data.toList = [] := List.eq_nil_of_length_eq_zero (by rw [U.len_data]; exact hn)
  have hga := Lib.grow_arg s.size K nw.size o.size (by omega) (by rw [ho]; omega) (by rw [hn]; omega)
  have hz1 : s.size + K * nw.size ≤ 281474976710656 := by rw [hn]; omega
  have HK := Lib.hid hK
  have HO := Lib.hid ho
  have HN := Lib.hid hn
  have HNW := Lib.hid hnwl
  have b4 : (0 : Int) < (o.size : Int) := by omega
  clear hK ho hn hnwl
  go_enter Tryd.func35, Tryd.ntmps35
  go_wp2_with fail
  refine (HC.out _).mono ?_
  rintro e w0 ⟨rfl, hw⟩
  rw [hw, HK.out]
  clear hw
  go_wp2_with fail
  rw [hga]
  refine (Tryd.Builder_Grow_fresh w.heap.size w.heap.size _ _ (Nat.le_refl _) (heap_alloc_new w _) (by simp) (by omega)).mono ?_
  rintro e w1 ⟨rfl, hb0, hb1⟩
  have H1 := Lib.hid (Lib.IsBuilderF.of (Or.inr hb0 : Lib.IsBuilder 52 5 w.heap.size w.heap.size (Lib.byteCells []) w1))
  have Hb1 := Lib.hid (((Below.refl w.heap.size w).alloc (Nat.le_refl _) _).trans hb1)
  clear hb0 hb1 hga
  go_wp2_with fail
  go_loopg [11, 53] K (fun g s11 s53 wx => ∃ (i start : Nat) (acc : List UInt8), s53 = .int .i64 i ∧ s11 = .int .i64 start ∧ i + g = K ∧ start ≤ s.size ∧
      Hid (Bld.Is w.heap.size w.heap.size (Lib.byteCells acc) wx) ∧ Hid (Below w.heap.size w wx) ∧ Hid (acc ++ without c (s.data.toList.drop start) = without c s.data.toList) ∧
      Hid (Lib.countByte (s.data.toList.drop start) c = g) ∧ acc.length ≤ start)
  case atStart => exact ⟨0, 0, [], rfl, rfl, by omega, Nat.zero_le _, H1, Hb1, Lib.hid rfl, HK, by simp⟩
  case round =>
    obtain ⟨i, start, acc, rfl, rfl, hig, hst, HB, HW, HR, HG, hbd⟩ := hrel
    have hBw : w.heap.size ≤ wr.heap.size := HW.out.size
    have c1 : (0 : Int) ≤ (start : Int) := by omega
    have c2 : (start : Int) ≤ (s.size : Int) := by omega
    cases gk with
    | zero =>
      have hiK : ¬ ((i : Int) < (K : Int)) := by omega
      go_wp2_with fail
      refine (Bld.put_str w.heap.size w.heap.size acc (s.data.toList.drop start) _ (by rw [Lib.extract_to_end]) wr HB.out (by rw [List.length_drop, U.len_data]; omega) hBw).mono ?_
      rintro e w3 ⟨rfl, h3, hb3, _⟩
      have hfin : acc ++ s.data.toList.drop start = without c s.data.toList := by rw [← HR.out, without_no c _ HG.out]
      rw [hfin] at h3
      have H3 := Lib.hid h3
      have Hb3 := Lib.hid (HW.out.trans hb3)
      have hBw3 : w.heap.size ≤ w3.heap.size := Hb3.out.size
      clear h3 hb3 hfin
      go_wp2_with fail
      refine (Bld.text w.heap.size w.heap.size _ w3 H3.out hBw3).mono ?_
      rintro e w5 ⟨rfl, hb5⟩
      have Hb5 := Lib.hid (Hb3.out.trans hb5)
      clear hb5
      go_wp2
      go_ret
      exact ⟨rfl, Hb5.out⟩
    | succ g =>
      have hiK : (i : Int) < (K : Int) := by omega
      rcases parts c (s.data.toList.drop start) with ⟨p1, p2, p3⟩ | ⟨p1, _⟩
      · obtain ⟨A, hA⟩ : ∃ A, A = foreB c (s.data.toList.drop start) := ⟨_, rfl⟩
        obtain ⟨B, hB⟩ : ∃ B, B = aftB c (s.data.toList.drop start) := ⟨_, rfl⟩
        have hAne := foreB_ne c (s.data.toList.drop start)
        rw [← hA] at p2 p3 hAne
        rw [← hB] at p3
        obtain ⟨j, hj⟩ : ∃ j, j = A.length := ⟨_, rfl⟩
        rw [← hj] at p2
        have hln := congrArg List.length p3
        rw [List.length_drop, U.len_data, List.length_append, List.length_cons, ← hj] at hln
        have hroom : j + 1 ≤ s.size - start := by omega
        have c3 : (start : Int) ≤ (start : Int) + (j : Int) := by omega
        have c4 : (start : Int) + (j : Int) ≤ (s.size : Int) := by omega
        have HA := Lib.hid (show (s.extract start (start + j)).data.toList = A from by
          rw [Lib.extract_data, Nat.add_sub_cancel_left, p3, hj]; simp)
        have HD := Lib.hid (show s.data.toList.drop (start + j + 1) = B from by
          have : s.data.toList.drop (start + j + 1) = (s.data.toList.drop start).drop (j + 1) := by rw [List.drop_drop]; congr 1
          rw [this, p3, hj, ← List.drop_drop]; simp)
        have HP := Lib.hid p2
        have HR2 := Lib.hid (show (acc ++ A) ++ without c B = without c s.data.toList from by rw [← HR.out, p3, without_at c A B hAne, List.append_assoc])
        have HG2 := Lib.hid (show Lib.countByte B c = g from by have := HG.out; rw [p3, count_at c A B hAne] at this; omega)
        have hAl : A.length = j := hj.symm
        have HAL := Lib.hid hAl
        clear p1 p2 p3 hA hB hAne hj hln hAl
        go_wp2_with fail
        refine (HI.out _ _).mono ?_
        rintro e w' ⟨rfl, hw⟩
        rw [hw, Lib.extract_to_end, HP.out]
        clear hw
        go_wp2_with fail
        refine (Bld.put_str w.heap.size w.heap.size acc A (s.extract start (start + j)) HA.out wr HB.out (by rw [HAL.out]; omega) hBw).mono ?_
        rintro e w3 ⟨rfl, h3, hb3, _⟩
        have hBw3 : w.heap.size ≤ w3.heap.size := Nat.le_trans hBw hb3.size
        have H3 := Lib.hid h3
        have Hb3 := Lib.hid hb3
        clear h3 hb3
        go_wp2_with fail
        refine (Bld.put_str w.heap.size w.heap.size (acc ++ A) [] nw HNW.out w3 H3.out (by rw [List.length_append, HAL.out]; simp; omega) hBw3).mono ?_
        rintro e w4 ⟨rfl, h4, hb4, _⟩
        rw [List.append_nil] at h4
        have H4 := Lib.hid h4
        have Hb4 := Lib.hid ((HW.out.trans Hb3.out).trans hb4)
        clear h4 hb4
        go_wp2
        go_roundg g
        case measure => omega
        case rel => exact ⟨i + 1, start + j + 1, acc ++ A, by first | rfl | (simp; unfold wrap64; omega), by (simp [HO.out]; unfold wrap64; omega), by omega, by omega, H4, Hb4, Lib.hid (by rw [HD.out]; exact HR2.out), Lib.hid (by rw [HD.out]; exact HG2.out), by rw [List.length_append, HAL.out]; omega⟩
      · have := HG.out
        have hz : Lib.countByte (s.data.toList.drop start) c = 0 := by
          unfold Lib.countByte
          rw [List.count_eq_zero]
          intro hm
          rw [← List.contains_iff_mem] at hm
          rw [p1] at hm; cases hm
        omega

set_option maxHeartbeats 1000000 in
theorem Replace_none (s o nw : ByteArray) (c : UInt8) (HC : Hid (∀ w, Calls Tryd.prog 52 #[.string s, .string o] w fun e w' => e = .returned (.int .i64 (Lib.countByte s.data.toList c)) ∧ w' = w))
    (hbeq : (o.toList == nw.toList) = false) (h0 : Lib.countByte s.data.toList c = 0) (w : World) :
    Calls Tryd.prog 35 #[.string s, .string o, .string nw, .int .i64 (-1)] w fun e w' => e = .returned (.string s) ∧ w = w' := by
  have HK := Lib.hid h0
  clear h0
  go_enter Tryd.func35, Tryd.ntmps35
  go_wp2_with fail
  refine (HC.out _).mono ?_
  rintro e w0 ⟨rfl, hw⟩
  rw [hw, HK.out]
  clear hw
  go_wp2
  go_ret
  exact ⟨rfl, rfl⟩
/-- A byte taken out everywhere. -/
theorem ReplaceAll_one (s : ByteArray) (c : UInt8) (hs : s.size ≤ 68719476736) (w : World) :
    Calls Tryd.prog 24 #[.string s, .string ⟨#[c]⟩, .string ⟨#[]⟩] w fun e w' => e = .returned (.string ⟨(without c s.data.toList).toArray⟩) ∧ Below w.heap.size w w' := by
  have HC := Lib.hid (fun w => Tryd.strings_Count_one s c w)
  have HI := Lib.hid (fun t w => Tryd.strings_Index_one t c w)
  have HR : Hid (∀ w, Calls Tryd.prog 35 #[.string s, .string ⟨#[c]⟩, .string ⟨#[]⟩, .int .i64 (-1)] w fun e w' => e = .returned (.string ⟨(without c s.data.toList).toArray⟩) ∧ Below w.heap.size w w') := Lib.hid (fun w => by
    rcases Nat.eq_zero_or_pos (Lib.countByte s.data.toList c) with h0 | h0
    · refine (Replace_none s ⟨#[c]⟩ ⟨#[]⟩ c HC (by rw [Lib.toList_data, Lib.toList_data]; rfl) h0 w).mono ?_
      rintro e w' ⟨rfl, rfl⟩
      rw [without_no c _ h0]
      exact ⟨by rw [← U.mk_data s _ rfl], Below.refl _ _⟩
    · exact Replace_some s ⟨#[c]⟩ ⟨#[]⟩ c hs HC HI rfl rfl _ rfl h0 w)
  clear HC HI
  go_enter Tryd.func24, Tryd.ntmps24
  go_wp2_with fail
  refine (HR.out _).mono ?_
  rintro e w' ⟨rfl, hb⟩
  go_wp2
  go_ret
  exact ⟨rfl, hb⟩
end Go.Proofs.YtnaimienfgpgmaaDoor.Rep

/- The signs of a text, as plain functions on lists of bytes: no program in sight. -/
set_option linter.unusedVariables false
namespace Go.Proofs.YtnaimienfgpgmaaDoor.GlyP
open Go.Lib

/-- Byte i of a text (0 beyond its end). -/
def by_ (l : List UInt8) (i : Nat) : Nat := (l.getD i 0).toNat
theorem by_lt (l : List UInt8) (i : Nat) : by_ l i < 256 := (l.getD i 0).toNat_lt
/-- The model's decoding at the front. -/
def dec (l : List UInt8) : Nat × Nat := decodeN l.length (by_ l 0) (by_ l 1) (by_ l 2) (by_ l 3)
/-- The sign at the front, and how many bytes it has. -/
def first (l : List UInt8) : Option (Nat × Nat) := if l.length = 0 then none else if (dec l).1 = 65533 ∧ (dec l).2 = 1 then none else some (dec l)
/-- How many bytes a sign has. -/
def wid (c : Nat) : Nat := if c < 128 then 1 else if c < 2048 then 2 else if c < 65536 then 3 else 4
/-- Is a sign plain? -/
def plain (c : Nat) : Bool := c == 9 || c == 10 || c == 13 || (decide (32 ≤ c) && c != 65534 && c != 65535)
/-- The signs of a text; none: it is none. -/
def signs : Nat → List UInt8 → Option (List Nat)
  | _, [] => some []
  | 0, _ :: _ => none
  | k + 1, a :: l => match first (a :: l) with
    | none => none
    | some (c, n) => if plain c then (signs k ((a :: l).drop n)).map (c :: ·) else none
/-- Is it a text? -/
def isText (l : List UInt8) : Bool := (signs l.length l).isSome

theorem dec_cases (l : List UInt8) : ((dec l).2 = 1 ∧ (dec l).1 < 128) ∨ ((dec l).2 = 2 ∧ 128 ≤ (dec l).1 ∧ (dec l).1 < 2048 ∧ 2 ≤ l.length) ∨
    ((dec l).2 = 3 ∧ 2048 ≤ (dec l).1 ∧ (dec l).1 < 65536 ∧ 3 ≤ l.length) ∨ ((dec l).2 = 4 ∧ 65536 ≤ (dec l).1 ∧ (dec l).1 ≤ 1114111 ∧ 4 ≤ l.length) ∨ ((dec l).2 = 1 ∧ (dec l).1 = 65533) := by
  unfold dec
  have h0 := by_lt l 0
  have h1 := by_lt l 1
  have h2 := by_lt l 2
  have h3 := by_lt l 3
  generalize by_ l 0 = b0 at *
  generalize by_ l 1 = b1 at *
  generalize by_ l 2 = b2 at *
  generalize by_ l 3 = b3 at *
  generalize l.length = n at *
  generalize hd_ : decodeN n b0 b1 b2 b3 = d
  unfold decodeN at hd_
  repeat' split at hd_
  all_goals (subst hd_; dsimp only; omega)
theorem dec_facts (l : List UInt8) (h : 0 < l.length) : 1 ≤ (dec l).2 ∧ (dec l).2 ≤ l.length ∧ (dec l).2 ≤ 4 ∧ (dec l).1 ≤ 1114111 ∧ (¬ ((dec l).1 = 65533 ∧ (dec l).2 = 1) → (dec l).2 = wid (dec l).1) := by
  have := dec_cases l
  unfold wid
  generalize (dec l).1 = c at *
  generalize (dec l).2 = k at *
  refine ⟨by omega, by omega, by omega, by omega, fun hn => ?_⟩
  split
  · omega
  · split
    · omega
    · split <;> omega

/-- U+FFFD stands just if its three bytes do. -/
theorem dec_wrong (l : List UInt8) (h : 0 < l.length) (hd : (dec l).1 = 65533) : ((dec l).2 = 1 ↔ ¬ (3 ≤ l.length ∧ by_ l 0 = 239 ∧ by_ l 1 = 191 ∧ by_ l 2 = 189)) := by
  revert hd
  unfold dec
  have h0 := by_lt l 0
  have h1 := by_lt l 1
  have h2 := by_lt l 2
  have h3 := by_lt l 3
  generalize by_ l 0 = b0 at *
  generalize by_ l 1 = b1 at *
  generalize by_ l 2 = b2 at *
  generalize by_ l 3 = b3 at *
  generalize l.length = n at *
  generalize hd_ : decodeN n b0 b1 b2 b3 = d
  unfold decodeN at hd_
  repeat' split at hd_
  all_goals (subst hd_; dsimp only; intro hd; omega)

theorem first_some (l : List UInt8) (c n : Nat) (h : first l = some (c, n)) : 1 ≤ n ∧ n ≤ l.length ∧ n ≤ 4 ∧ c ≤ 1114111 ∧ n = wid c ∧ dec l = (c, n) := by
  unfold first at h
  split at h
  · cases h
  · split at h
    · cases h
    · rename_i h0 h1
      have hd := dec_facts l (by omega)
      obtain h2 := Option.some.inj h
      rw [h2] at hd h1
      exact ⟨hd.1, hd.2.1, hd.2.2.1, hd.2.2.2.1, hd.2.2.2.2 h1, h2⟩
theorem signs_fuel : ∀ (f g : Nat) (l : List UInt8), l.length ≤ f → l.length ≤ g → signs f l = signs g l
  | 0, 0, l, _, _ => rfl
  | _, _, [], _, _ => by simp [signs]
  | 0, _ + 1, _ :: _, h, _ => by simp at h
  | _ + 1, 0, _ :: _, _, h => by simp at h
  | f + 1, g + 1, a :: l, hf, hg => by
    simp only [signs]
    cases ho : first (a :: l) with
    | none => rfl
    | some x =>
      obtain ⟨c, n⟩ := x
      have := first_some _ _ _ ho
      have hl : ((a :: l).drop n).length ≤ l.length := by rw [List.length_drop, List.length_cons]; omega
      simp only [List.length_cons] at hf hg
      simp only
      rw [signs_fuel f g _ (Nat.le_trans hl (by omega)) (Nat.le_trans hl (by omega))]
/-- One sign more. -/
theorem isText_step (l : List UInt8) (h : l ≠ []) : isText l = match first l with | none => false | some (c, n) => plain c && isText (l.drop n) := by
  match l, h with
  | a :: l, _ =>
    unfold isText
    rw [List.length_cons]
    simp only [signs]
    cases ho : first (a :: l) with
    | none => rfl
    | some x =>
      obtain ⟨c, n⟩ := x
      have := first_some _ _ _ ho
      have hl : ((a :: l).drop n).length ≤ l.length := by rw [List.length_drop, List.length_cons]; omega
      simp only
      rw [signs_fuel l.length _ _ hl (Nat.le_refl _)]
      cases plain c <;> simp
theorem isText_nil : isText [] = true := rfl
end Go.Proofs.YtnaimienfgpgmaaDoor.GlyP

/- glyph's functions at this translation: First, width, plain, Len, Check, Fold: what they return, for every text. -/
set_option linter.unusedVariables false
set_option linter.unusedSimpArgs false
namespace Go.Proofs.YtnaimienfgpgmaaDoor.Gly
open Go.RowKit GlyP

theorem width_any (c : Int) (n : Nat) (hn : c = (n : Int)) (w : World) :
    Calls Tryd.prog 88 #[.int .i64 c] w fun e w' => e = .returned (.int .i64 (wid n : Int)) ∧ w = w' := by
  have H := Lib.hid hn
  have h0 : 0 ≤ c := by omega
  by_cases h1 : c < 128
  · have hw : wid n = 1 := by unfold wid; rw [if_pos (by omega)]
    have HW := Lib.hid hw; clear hw hn
    go_enter Tryd.func88, Tryd.ntmps88
    go_wp2
    go_ret
    exact ⟨by rw [HW.out]; rfl, rfl⟩
  · by_cases h2 : c < 2048
    · have hw : wid n = 2 := by unfold wid; rw [if_neg (by omega), if_pos (by omega)]
      have HW := Lib.hid hw; clear hw hn
      go_enter Tryd.func88, Tryd.ntmps88
      go_wp2
      go_ret
      exact ⟨by rw [HW.out]; rfl, rfl⟩
    · by_cases h3 : c < 65536
      · have hw : wid n = 3 := by unfold wid; rw [if_neg (by omega), if_neg (by omega), if_pos (by omega)]
        have HW := Lib.hid hw; clear hw hn
        go_enter Tryd.func88, Tryd.ntmps88
        go_wp2
        go_ret
        exact ⟨by rw [HW.out]; rfl, rfl⟩
      · have hw : wid n = 4 := by unfold wid; rw [if_neg (by omega), if_neg (by omega), if_neg (by omega)]
        have HW := Lib.hid hw; clear hw hn
        go_enter Tryd.func88, Tryd.ntmps88
        go_wp2
        go_ret
        exact ⟨by rw [HW.out]; rfl, rfl⟩

theorem get_by (s : ByteArray) (i : Nat) : (s.get! i).toNat = by_ s.data.toList i := by
  unfold by_
  rcases Nat.lt_or_ge i s.size with h | h
  · rw [List.getD_eq_getElem?_getD, List.getElem?_eq_getElem (by rw [U.len_data]; exact h)]
    simp [ByteArray.get!, getElem!_pos, h]
  · rw [List.getD_eq_getElem?_getD, List.getElem?_eq_none (by rw [U.len_data]; exact h)]
    have : s.data[i]? = none := Array.getElem?_eq_none (show s.data.size ≤ i from h)
    simp [ByteArray.get!, getElem!_def, this]
    rfl
theorem dec_model (s : ByteArray) : Utf8.decode s 0 = dec s.data.toList := by
  rw [Lib.decode_at, get_by, get_by, get_by, get_by, dec, U.len_data]; rfl

theorem below_iter (w : World) (s : ByteArray) : Below w.heap.size w (w.iter s 0) := (Below.refl _ w).alloc (Nat.le_refl _) _
theorem cut3 (s : ByteArray) (h : 3 ≤ s.size) : ((s.extract 0 3).toList == [239, 191, 189]) = decide (by_ s.data.toList 0 = 239 ∧ by_ s.data.toList 1 = 191 ∧ by_ s.data.toList 2 = 189) := by
  rw [Lib.toList_data, Lib.extract_data]
  have hl := U.len_data s
  revert hl
  generalize s.data.toList = l
  intro hl
  match l, hl with
  | a :: b :: c :: r, _ =>
    rw [Bool.eq_iff_iff]
    simp [by_, ← UInt8.toNat_inj]
  | [], hl => simp at hl; omega
  | [_], hl => simp at hl; omega
  | [_, _], hl => simp at hl; omega
/-- What First gives, as a value. -/
def firstV : Option (Nat × Nat) → Value
  | none => .tuple #[.int .i64 0, .int .i64 0, .int .i64 10]
  | some (c, n) => .tuple #[.int .i64 c, .int .i64 n, .int .i64 0]

set_option maxHeartbeats 1000000 in
theorem First_any (s : ByteArray) (w : World) :
    Calls Tryd.prog 83 #[.string s] w fun e w' => e = .returned (firstV (first s.data.toList)) ∧ Below w.heap.size w w' := by
  rcases Nat.eq_zero_or_pos s.size with h0 | hp
  · have hf : first s.data.toList = none := by unfold first; rw [U.len_data, if_pos h0]
    have HF := Lib.hid hf; clear hf
    have hnx : ∀ ty, (Instr.next (.pointer (some ⟨w.heap.size, 0, none⟩)) true ty).run Tryd.prog (w.iter s 0) = _ := fun ty => Lib.run_next_end_at (w.iter s 0) w.heap.size s 0 ty (World.iter_heap w s 0) (by omega)
    go_enter Tryd.func83, Tryd.ntmps83
    go_wp2
    refine wp_loop_rounds 1 ?_
    rw [rounds_succ]
    go_wp2
    go_ret3
    exact ⟨by rw [HF.out]; rfl, below_iter w s⟩
  · have hf := dec_facts s.data.toList (by rw [U.len_data]; exact hp)
    have hw := dec_wrong s.data.toList (by rw [U.len_data]; exact hp)
    have hnx : ∀ ty, (Instr.next (.pointer (some ⟨w.heap.size, 0, none⟩)) true ty).run Tryd.prog (w.iter s 0) = _ := fun ty => Lib.run_next_any_at (w.iter s 0) w.heap.size s 0 ty (World.iter_heap w s 0) hp
    rw [dec_model] at hnx
    have hfirst : first s.data.toList = if (dec s.data.toList).1 = 65533 ∧ (dec s.data.toList).2 = 1 then none else some (dec s.data.toList) := by
      unfold first; rw [U.len_data, if_neg (by omega)]
    obtain ⟨c, hc⟩ : ∃ c, c = (dec s.data.toList).1 := ⟨_, rfl⟩
    obtain ⟨n, hn⟩ : ∃ n, n = (dec s.data.toList).2 := ⟨_, rfl⟩
    rw [← hc, ← hn] at hnx hf hfirst hw
    have hpair : dec s.data.toList = (c, n) := by rw [hc, hn]
    rw [hpair] at hfirst
    clear hc hn hpair
    have HF := Lib.hid hfirst; clear hfirst
    have HW := Lib.hid hw; clear hw
    have HWD := Lib.hid hf.2.2.2.2
    have hb1 := hf.1
    have hb2 := hf.2.2.2.1
    clear hf
    by_cases hq : c = 65533
    · have hq2 : ((c : Int) == 65533) = true := by simp; omega
      have HQ := Lib.hid hq; clear hq
      go_enter Tryd.func83, Tryd.ntmps83
      go_wp2
      refine wp_loop_rounds 1 ?_
      rw [rounds_succ]
      go_wp2_with fail
      refine (width_any _ c rfl _).mono ?_
      rintro e w1 ⟨rfl, rfl⟩
      have hwid : wid c = 3 := by rw [HQ.out]; rfl
      rw [hwid]
      clear hwid
      by_cases h3 : s.size < 3
      · have hne : first s.data.toList = none := by
          have := (HW.out HQ.out).2 (by rw [U.len_data]; omega)
          rw [HF.out, if_pos ⟨HQ.out, this⟩]
        have HN := Lib.hid hne; clear hne
        go_wp2
        go_ret3
        exact ⟨by rw [HN.out]; rfl, Lib.below_iterAt (below_iter w s) (Nat.le_refl _) _ _⟩
      · have hcut := cut3 s (by omega)
        cases hz : ((s.extract 0 3).toList == [239, 191, 189]) with
        | true =>
          rw [hz] at hcut
          have hne : first s.data.toList = some (c, 3) := by
            have h1 : ¬ n = 1 := fun h => (HW.out HQ.out).1 h ⟨by rw [U.len_data]; omega, (of_decide_eq_true hcut.symm)⟩
            have h2 := HWD.out (fun h => h1 h.2)
            rw [HF.out, if_neg (fun h => h1 h.2), h2, HQ.out]; rfl
          have HN := Lib.hid hne; clear hne
          clear hcut
          go_wp2
          go_ret3
          exact ⟨by rw [HN.out]; rfl, Lib.below_iterAt (below_iter w s) (Nat.le_refl _) _ _⟩
        | false =>
          rw [hz] at hcut
          have hne : first s.data.toList = none := by
            have := (HW.out HQ.out).2 (fun h => absurd h.2 (of_decide_eq_false hcut.symm))
            rw [HF.out, if_pos ⟨HQ.out, this⟩]
          have HN := Lib.hid hne; clear hne
          clear hcut
          go_wp2
          go_ret3
          exact ⟨by rw [HN.out]; rfl, Lib.below_iterAt (below_iter w s) (Nat.le_refl _) _ _⟩
    · have hq2 : ((c : Int) == 65533) = false := by simp; omega
      have hne : first s.data.toList = some (c, n) := by rw [HF.out, if_neg (fun h => hq h.1)]
      have hwd : n = wid c := HWD.out (fun h => hq h.1)
      have HD := Lib.hid hwd; clear hwd
      have HN := Lib.hid hne; clear hne
      have HQ := Lib.hid hq; clear hq
      go_enter Tryd.func83, Tryd.ntmps83
      go_wp2
      refine wp_loop_rounds 1 ?_
      rw [rounds_succ]
      go_wp2_with fail
      refine (width_any _ c rfl _).mono ?_
      rintro e w1 ⟨rfl, rfl⟩
      go_wp2
      go_ret3
      exact ⟨by rw [HN.out, HD.out]; rfl, Lib.below_iterAt (below_iter w s) (Nat.le_refl _) _ _⟩

theorem plain_any (c : Int) (n : Nat) (hn : c = (n : Int)) (w : World) :
    Calls Tryd.prog 84 #[.int .i64 c] w fun e w' => e = .returned (.bool (plain n)) ∧ w = w' := by
  have H := Lib.hid hn
  by_cases h1 : c = 9 ∨ c = 10 ∨ c = 13 ∨ c = 65534 ∨ c = 65535
  · rcases h1 with rfl | rfl | rfl | rfl | rfl
    all_goals
      go_enter Tryd.func84, Tryd.ntmps84
      go_wp2
      go_ret
      refine ⟨?_, rfl⟩
    · obtain rfl : n = 9 := by have := H.out; omega
      rfl
    · obtain rfl : n = 10 := by have := H.out; omega
      rfl
    · obtain rfl : n = 13 := by have := H.out; omega
      rfl
    · obtain rfl : n = 65534 := by have := H.out; omega
      rfl
    · obtain rfl : n = 65535 := by have := H.out; omega
      rfl
  · have a1 : (c == 9) = false := by rw [beq_eq_false_iff_ne]; omega
    have a2 : (c == 10) = false := by rw [beq_eq_false_iff_ne]; omega
    have a3 : (c == 13) = false := by rw [beq_eq_false_iff_ne]; omega
    have a4 : (c == 65534) = false := by rw [beq_eq_false_iff_ne]; omega
    have a5 : (c == 65535) = false := by rw [beq_eq_false_iff_ne]; omega
    have hp : plain n = decide (32 ≤ c) := by
      unfold plain
      rw [show (n == 9) = false from by rw [beq_eq_false_iff_ne]; omega, show (n == 10) = false from by rw [beq_eq_false_iff_ne]; omega, show (n == 13) = false from by rw [beq_eq_false_iff_ne]; omega,
        show (n != 65534) = true from by rw [bne_iff_ne]; omega, show (n != 65535) = true from by rw [bne_iff_ne]; omega]
      simp; omega
    have HP := Lib.hid hp; clear hp h1 hn
    go_enter Tryd.func84, Tryd.ntmps84
    go_wp2
    go_ret
    exact ⟨by rw [HP.out]; rfl, rfl⟩

/-- Some number, and whether it is a text. -/
def LenPost (b : Bool) (w : World) (e : Ending) (w' : World) : Prop := (∃ n : Int, e = .returned (.tuple #[.int .i64 n, .int .i64 (if b then 0 else 10)])) ∧ Below w.heap.size w w'

set_option maxHeartbeats 1000000 in
theorem Len_any (s : ByteArray) (hs : s.size ≤ 140737488355328) (w : World) :
    Calls Tryd.prog 73 #[.string s] w (LenPost (isText s.data.toList) w) := by
  go_enter Tryd.func73, Tryd.ntmps73
  go_wp2_with fail
  go_loopw [0, 2] (fun t q wr => ∃ (r : ByteArray) (k : Nat), t = .string r ∧ q = .int .i64 k ∧ k + r.size ≤ s.size ∧ Hid (isText s.data.toList = isText r.data.toList) ∧ Below w.heap.size w wr) (fun t _ _ => match t with | .string r => r.size | _ => 0)
  case atStart => exact ⟨s, 0, rfl, rfl, by omega, Lib.hid rfl, Below.refl _ w⟩
  case round =>
    obtain ⟨r, k, rfl, rfl, hk, HT, hbw⟩ := hrel
    rcases Nat.eq_zero_or_pos r.size with h0 | hp
    · have h1 : r.toList = [] := U.toList_nil r h0
      have h2 : isText s.data.toList = true := by rw [HT.out, ← Lib.toList_data, h1]; rfl
      have H2 := Lib.hid h2; clear h2
      have H0 := Lib.hid h0; clear h0
      go_wp2
      go_ret2
      exact ⟨⟨_, by rw [H2.out]; rfl⟩, hbw⟩
    · have h1 : r.toList.isEmpty = false := U.isEmpty_false r hp
      have hne : r.data.toList ≠ [] := by rw [← Lib.toList_data]; exact List.isEmpty_eq_false_iff.1 h1
      have hst := Lib.hid (isText_step _ hne)
      clear hne
      go_wp2_with fail
      refine (First_any r _).mono ?_
      rintro e w1 ⟨rfl, hb1⟩
      have hbw1 := U.below_then hbw hb1
      clear hb1 hbw
      cases ho : first r.data.toList with
      | none =>
        rw [show firstV none = .tuple #[.int .i64 0, .int .i64 0, .int .i64 10] from rfl]
        have h2 : isText s.data.toList = false := by rw [HT.out, hst.out, ho]
        have H2 := Lib.hid h2; clear h2 ho
        go_wp2
        go_ret2
        exact ⟨⟨_, by rw [H2.out]; rfl⟩, hbw1⟩
      | some x =>
        obtain ⟨c, n⟩ := x
        have hfs := first_some _ _ _ ho
        rw [U.len_data] at hfs
        have hn1 := hfs.1
        have hn2 := hfs.2.1
        rw [show firstV (some (c, n)) = .tuple #[.int .i64 c, .int .i64 n, .int .i64 0] from rfl]
        have HO := Lib.hid ho; clear ho hfs
        go_wp2_with fail
        refine (plain_any _ c rfl _).mono ?_
        rintro e w2 ⟨rfl, rfl⟩
        cases hpl : plain c with
        | false =>
          have h2 : isText s.data.toList = false := by rw [HT.out, hst.out, HO.out]; simp [hpl]
          have H2 := Lib.hid h2; clear h2 hpl
          go_wp2
          go_ret2
          exact ⟨⟨_, by rw [H2.out]; rfl⟩, hbw1⟩
        | true =>
          have h2 : isText s.data.toList = isText (r.extract n r.size).data.toList := by rw [HT.out, hst.out, HO.out, U.drop_data]; simp [hpl]
          have H2 := Lib.hid h2; clear h2 hpl
          have hsz : (r.extract n r.size).size + n = r.size := by rw [ByteArray.size_extract]; omega
          have hsz2 : (r.extract n r.size).size + n ≤ r.size := by omega
          have hsz3 : r.size ≤ (r.extract n r.size).size + n := by omega
          clear hsz
          go_wp2
          go_roundw
          case rel => exact ⟨r.extract n r.size, k + 1, rfl, by go_num, by omega, H2, hbw1⟩
          case measure => simp; omega

theorem Check_any (s : ByteArray) (hs : s.size ≤ 140737488355328) (w : World) :
    Calls Tryd.prog 61 #[.string s] w fun e w' => e = .returned (.int .i64 (if isText s.data.toList then 0 else 10)) ∧ Below w.heap.size w w' := by
  obtain ⟨v, hv⟩ : ∃ v : Int, v = if isText s.data.toList then 0 else 10 := ⟨_, rfl⟩
  have HL := Len_any s hs w
  unfold LenPost at HL
  rw [← hv] at HL ⊢
  have HL2 := Lib.hid HL
  clear HL hv
  go_enter Tryd.func61, Tryd.ntmps61
  go_wp2_with fail
  refine HL2.out.mono ?_
  rintro e w1 ⟨⟨n, rfl⟩, hb⟩
  go_wp2
  go_ret
  exact ⟨rfl, hb⟩

/-- A byte without its great letter. -/
def low (c : UInt8) : UInt8 := if 65 ≤ c ∧ c ≤ 90 then c + 32 else c

theorem low_all : ∀ n : Fin 256, if ((n.val : Int) - 65) % 256 < 26 then Go.bits .or .u8 (n.val : Int) 32 = ((low (UInt8.ofNat n.val)).toNat : Int) else low (UInt8.ofNat n.val) = UInt8.ofNat n.val := by decide +kernel
theorem low_yes (c : UInt8) (h : ((c.toNat : Int) - 65) % 256 < 26) : Go.bits .or .u8 (c.toNat : Int) 32 = ((low c).toNat : Int) := by
  have := low_all ⟨c.toNat, c.toNat_lt⟩
  rw [if_pos h] at this
  simpa using this
theorem low_no (c : UInt8) (h : ¬ ((c.toNat : Int) - 65) % 256 < 26) : low c = c := by
  have := low_all ⟨c.toNat, c.toNat_lt⟩
  rw [if_neg h] at this
  simpa using this

set_option maxHeartbeats 1000000 in
theorem Fold_any (s : ByteArray) (hs : s.size ≤ 140737488355328) (w : World) :
    Calls Tryd.prog 25 #[.string s] w fun e w' => e = .returned (.string ⟨(s.data.toList.map low).toArray⟩) ∧ Below w.heap.size w w' := by
  have hcv := fun (w : World) => Lib.run_convert_string_bytes (P := Tryd.prog) w 9 49 5 s Tryd.underlying9 Tryd.underlying49 Tryd.underlying5
  go_enter Tryd.func25, Tryd.ntmps25
  go_wp2
  clear hcv
  go_loopw [10] (fun i wr => ∃ k : Nat, k ≤ s.size ∧ i = .int .i64 k ∧ Hid (U.BytesAt w.heap.size ((s.data.toList.take k).map low ++ s.data.toList.drop k) wr) ∧ Below w.heap.size w wr) (fun i _ => s.size - (intOf i).toNat)
  case atStart => exact ⟨0, by omega, rfl, Lib.hid (U.BytesAt.new w s), U.below_bytesWorld w _ s⟩
  case round =>
    obtain ⟨k, hk, rfl, HB, hbw⟩ := hrel
    have hl : ((s.data.toList.take k).map low ++ s.data.toList.drop k).length = s.size := by
      rw [List.length_append, List.length_map, List.length_take, List.length_drop, U.len_data]; omega
    by_cases hlt : k < s.size
    · have hat := HB.out k (by omega)
      have hg : ((s.data.toList.take k).map low ++ s.data.toList.drop k)[k]'(by omega) = s[k] := by
        rw [List.getElem_append_right (by rw [List.length_map, List.length_take, U.len_data]; omega)]
        simp [U.len_data, Nat.min_eq_left hk]
        rfl
      rw [hg] at hat
      obtain ⟨hc, hf⟩ := hat
      have hnext : (s.data.toList.take (k + 1)).map low ++ s.data.toList.drop (k + 1) = ((s.data.toList.take k).map low ++ s.data.toList.drop k).set k (low s[k]) := by
        rw [List.set_append_right _ _ (by rw [List.length_map, List.length_take, U.len_data]; omega), U.u8_at s k hlt, List.length_map, List.length_take, U.len_data, Nat.min_eq_left hk, Nat.sub_self, List.set_cons_zero,
          List.take_succ_eq_append_getElem (by rw [U.len_data]; exact hlt), List.map_append, List.append_assoc]
        rfl
      have HN := Lib.hid hnext
      have hsame : low s[k] = s[k] → ((s.data.toList.take k).map low ++ s.data.toList.drop k).set k (low s[k]) = (s.data.toList.take k).map low ++ s.data.toList.drop k := by
        intro h; rw [h, ← hg, List.set_getElem_self]
      have HG := Lib.hid hsame
      clear hsame
      clear hg hl hnext
      by_cases hq : ((s[k].toNat : Int) - 65) % 256 < 26
      · have hy := low_yes s[k] hq
        have HY := Lib.hid hy; clear hy
        go_wp2
        go_roundw
        case rel => exact ⟨k + 1, by omega, by go_num, Lib.hid (by rw [HN.out]; exact HB.out.set k _ _ (by rw [HY.out])), hbw.setCell (p := ⟨w.heap.size, k, none⟩) (Nat.le_refl _) _⟩
        case measure => simp [intOf]; omega
      · have hy := low_no s[k] hq
        have HY := Lib.hid hy; clear hy
        go_wp2
        go_roundw
        case rel => exact ⟨k + 1, by omega, by go_num, Lib.hid (by rw [HN.out, HG.out HY.out]; exact HB.out), hbw⟩
        case measure => simp [intOf]; omega
    · have hkk : k = s.size := by omega
      have hB := HB.out
      rw [hkk, ← U.len_data, List.take_length, List.drop_length, List.append_nil] at hB
      have hcv := hB.text (P := Tryd.prog) 49 9 5 (grownCap w s.size 0 5) Tryd.underlying49 Tryd.underlying5 Tryd.underlying9
      rw [List.length_map, U.len_data] at hcv
      clear hB hl hkk HB
      go_wp2
      go_ret
      exact ⟨rfl, hbw⟩

end Go.Proofs.YtnaimienfgpgmaaDoor.Gly

/- handle.Norm and handle.Same at this translation. -/
set_option linter.unusedVariables false
set_option linter.unusedSimpArgs false
namespace Go.Proofs.YtnaimienfgpgmaaDoor.Han
open Go.RowKit Gly Rep

/-- A name's plain form. -/
def norm (l : List UInt8) : List UInt8 := without 32 (l.map low)
theorem norm_len (l : List UInt8) : (norm l).length ≤ l.length := by
  unfold norm without
  exact Nat.le_trans (List.length_filter_le _ _) (by rw [List.length_map]; exact Nat.le_refl _)
def normB (s : ByteArray) : ByteArray := ⟨(norm s.data.toList).toArray⟩
theorem normB_data (s : ByteArray) : (normB s).data.toList = norm s.data.toList := rfl
theorem normB_size (s : ByteArray) : (normB s).size ≤ s.size := by
  rw [← U.len_data, normB_data, ← U.len_data]; exact norm_len _
theorem Norm_any (s : ByteArray) (hs : s.size ≤ 68719476736) (w : World) :
    Calls Tryd.prog 12 #[.string s] w fun e w' => e = .returned (.string (normB s)) ∧ Below w.heap.size w w' := by
  obtain ⟨T, hT⟩ : ∃ T : ByteArray, T = ⟨(s.data.toList.map low).toArray⟩ := ⟨_, rfl⟩
  have hTd : T.data.toList = s.data.toList.map low := by rw [hT]
  have hz : T.size ≤ 68719476736 := by rw [← U.len_data, hTd, List.length_map, U.len_data]; exact hs
  have HF : Hid (∀ w, Calls Tryd.prog 25 #[.string s] w fun e w' => e = .returned (.string T) ∧ Below w.heap.size w w') := Lib.hid (fun w => by rw [hT]; exact Fold_any s (by omega) w)
  have HR : Hid (∀ w, Calls Tryd.prog 24 #[.string T, .string ⟨#[32]⟩, .string ⟨#[]⟩] w fun e w' => e = .returned (.string (normB s)) ∧ Below w.heap.size w w') := Lib.hid (fun w => by
    have := ReplaceAll_one T 32 hz w
    rw [hTd] at this
    exact this)
  clear hTd hT hz
  go_enter Tryd.func12, Tryd.ntmps12
  go_wp2_with fail
  refine (HF.out _).mono ?_
  rintro e w1 ⟨rfl, hb1⟩
  have HB := Lib.hid hb1
  clear hb1
  go_wp2_with fail
  refine (HR.out _).mono ?_
  rintro e w2 ⟨rfl, hb2⟩
  go_wp2
  go_ret
  exact ⟨rfl, U.below_then HB.out hb2⟩
theorem Same_any (a b : ByteArray) (ha : a.size ≤ 68719476736) (hb : b.size ≤ 68719476736) (w : World) :
    Calls Tryd.prog 14 #[.string a, .string b] w fun e w' => e = .returned (.bool (norm a.data.toList == norm b.data.toList)) ∧ Below w.heap.size w w' := by
  have HA := Lib.hid (fun w => Norm_any a ha w)
  have HB := Lib.hid (fun w => Norm_any b hb w)
  have hv : ((normB a).toList == (normB b).toList) = (norm a.data.toList == norm b.data.toList) := by rw [Lib.toList_data, Lib.toList_data]; rfl
  have HV := Lib.hid hv
  clear hv
  go_enter Tryd.func14, Tryd.ntmps14
  go_wp2_with fail
  refine (HA.out _).mono ?_
  rintro e w1 ⟨rfl, hb1⟩
  have H1 := Lib.hid hb1
  clear hb1
  go_wp2_with fail
  refine (HB.out _).mono ?_
  rintro e w2 ⟨rfl, hb2⟩
  have H2 := Lib.hid (U.below_then H1.out hb2)
  clear hb2
  go_wp2
  go_ret
  exact ⟨by rw [← HV.out]; rfl, H2.out⟩
end Go.Proofs.YtnaimienfgpgmaaDoor.Han

/- handle.Norm and handle.Same as the printed texts want them: what each returns, as a function that may fail past 2^36 bytes. -/
set_option linter.unusedVariables false
namespace Go.Proofs.YtnaimienfgpgmaaDoor.F
open Go.RowKit
/-- A bound on lengths. -/
def hl : Nat := 68719476736
def handle_Norm.f (a : ByteArray) : Option ByteArray := if a.size ≤ hl then some (Han.normB a) else none
theorem handle_Norm.calls (a r : ByteArray) (w : World) (h : handle_Norm.f a = some r) :
    Calls Tryd.prog 12 #[.string a] w fun e w' => e = .returned (.string r) ∧ Below w.heap.size w w' := by
  unfold handle_Norm.f at h
  by_cases hc : a.size ≤ hl
  · rw [if_pos hc] at h
    obtain rfl := Option.some.inj h
    exact Han.Norm_any a hc w
  · rw [if_neg hc] at h; cases h
def handle_Same.f (a b : ByteArray) : Option Bool := if a.size ≤ hl ∧ b.size ≤ hl then some (Han.norm a.data.toList == Han.norm b.data.toList) else none
theorem handle_Same.calls (a b : ByteArray) (r : Bool) (w : World) (h : handle_Same.f a b = some r) :
    Calls Tryd.prog 14 #[.string a, .string b] w fun e w' => e = .returned (.bool r) ∧ Below w.heap.size w w' := by
  unfold handle_Same.f at h
  by_cases hc : a.size ≤ hl ∧ b.size ≤ hl
  · rw [if_pos hc] at h
    obtain rfl := Option.some.inj h
    exact Han.Same_any a b hc.1 hc.2 w
  · rw [if_neg hc] at h; cases h
end Go.Proofs.YtnaimienfgpgmaaDoor.F

/- What the escapes come to, as plain functions on lists of bytes: no program in sight. -/
namespace Go.Proofs.YtnaimienfgpgmaaDoor.EscP

/-- The bytes that are escaped. -/
def spB : List UInt8 := [32, 34, 38, 39, 47, 58, 60, 62, 64, 92]
/-- A digit below 16. -/
def hexd (n : UInt8) : UInt8 := if n < 10 then 48 + n else 87 + n
/-- A byte's escape. -/
def seq3 (c : UInt8) : List UInt8 := [92, hexd (c >>> 4), hexd (c &&& 15)]
/-- The byte for which the escape at the front stands, looked for from place k of the table on. -/
def begF (l : List UInt8) (k : Nat) : Option UInt8 := (spB.drop k).find? fun c => (seq3 c).isPrefixOf l
/-- The byte for which the escape at the front stands. -/
def beg (l : List UInt8) : Option UInt8 := begF l 0
/-- A byte that may not stand. -/
def isSp (c : UInt8) : Bool := (spB.take 9).contains c
/-- A text, escaped. -/
def escG : List UInt8 → List UInt8
  | [] => []
  | c :: l => (if (beg (c :: l)).isSome || isSp c then seq3 c else [c]) ++ escG l
/-- May the text not be escaped? -/
def bad (l : List UInt8) : Bool := l.isEmpty || l.head? == some 32 || l.getLast? == some 32
/-- A text, unescaped; 'start': this is its beginning; with so many steps at most. -/
def unG : Nat → Bool → List UInt8 → List UInt8
  | 0, _, _ => []
  | _ + 1, _, [] => []
  | k + 1, start, c :: l =>
    match beg (c :: l) with
    | some x => if x != 32 || (!start && decide (3 < (c :: l).length)) then x :: unG k false (l.drop 2) else c :: unG k false l
    | none => c :: unG k false l
def un (l : List UInt8) : List UInt8 := unG l.length true l

theorem seq3_len (c : UInt8) : (seq3 c).length = 3 := rfl
theorem escG_le : ∀ l : List UInt8, (escG l).length ≤ 3 * l.length
  | [] => by simp [escG]
  | c :: l => by
    have := escG_le l
    simp only [escG, List.length_append, List.length_cons]
    split
    · simp only [seq3_len]; omega
    · simp only [List.length_cons, List.length_nil]; omega

end Go.Proofs.YtnaimienfgpgmaaDoor.EscP

/- The escapes' small functions at this translation: a digit, a byte's escape, the table, a byte of it, what begins a text; for every argument. -/
set_option linter.unusedVariables false
set_option linter.unusedSimpArgs false
namespace Go.Proofs.YtnaimienfgpgmaaDoor.Esc
open Go.RowKit EscP


/-- An array's element at an index that is a variable: its cells are of one word. -/
theorem run_index_arr {P : Program} {w : World} (t e : TypeId) (n : Nat) (cs : Array Value) (i : Nat) (v : Value) (h : P.underlying t = some (.array n e))
    (ha : ∀ w, (isAgg e).run P w = .ok false w) (hz : ∀ w, (Go.sizeOf e).run P w = .ok 1 w) (hi : i < n) (hv : cs[i]? = some v) :
    (Instr.index t (.agg cs) (.int .i64 (i : Int))).run P w = .ok v w := by
  have h1 : (0 : Int) ≤ (i : Int) ∧ (i : Int) < (n : Int) := by omega
  simp [Instr.index, run_underlying h, asIntOf, go_sem, hz, part, ha, hv, hi]

/-- A byte's escape, over bytes. -/
theorem hexd_int (n : UInt8) (h : n < 16) : ((hexd n).toNat : Int) = if (n.toNat : Int) < 10 then 48 + (n.toNat : Int) else 87 + (n.toNat : Int) := by
  have h' : n.toNat < 16 := by simpa [UInt8.lt_iff_toNat_lt] using h
  unfold hexd
  by_cases hn : n < 10
  · have hn' : n.toNat < 10 := by simpa [UInt8.lt_iff_toNat_lt] using hn
    rw [if_pos hn, if_pos (by omega), UInt8.toNat_add]; simp; omega
  · have hn' : ¬ n.toNat < 10 := by simpa [UInt8.lt_iff_toNat_lt] using hn
    rw [if_neg hn, if_neg (by omega), UInt8.toNat_add]; simp; omega

theorem digit_any (n : Int) (m : UInt8) (hn : n = (m.toNat : Int)) (hm : m < 16) (w : World) :
    Calls Tryd.prog 59 #[.int .u8 n] w fun e w' => e = .returned (.int .u8 ((hexd m).toNat : Int)) ∧ w = w' := by
  have H := Lib.hid (hexd_int m hm)
  have h0 : 0 ≤ n := by omega
  have h1 : n < 16 := by have : m.toNat < 16 := by simpa [UInt8.lt_iff_toNat_lt] using hm
                         omega
  have HN := Lib.hid hn; clear hn
  by_cases h : n < 10
  · go_enter Tryd.func59, Tryd.ntmps59
    go_wp2
    go_ret
    exact ⟨by rw [H.out, ← HN.out, if_pos h]; rfl, rfl⟩
  · go_enter Tryd.func59, Tryd.ntmps59
    go_wp2
    go_ret
    exact ⟨by rw [H.out, ← HN.out, if_neg (by omega)]; simp; omega, rfl⟩

/-- The table, as the machine holds it. -/
def tab : Array Value := #[.int .u8 32, .int .u8 34, .int .u8 38, .int .u8 39, .int .u8 47, .int .u8 58, .int .u8 60, .int .u8 62, .int .u8 64, .int .u8 92]
theorem tab_at (k : Nat) (h : k < 10) : tab[k]? = some (.int .u8 ((spB.getD k 0).toNat : Int)) := by
  match k, h with
  | 0, _ => rfl
  | 1, _ => rfl
  | 2, _ => rfl
  | 3, _ => rfl
  | 4, _ => rfl
  | 5, _ => rfl
  | 6, _ => rfl
  | 7, _ => rfl
  | 8, _ => rfl
  | 9, _ => rfl

theorem special_any (w : World) :
    Calls Tryd.prog 56 #[] w fun e w' => e = .returned (.agg tab) ∧ Below w.heap.size w w' := by
  go_enter Tryd.func56, Tryd.ntmps56
  go_wp2
  refine bodyPost_ret (v := .agg tab) (by simp [results, Tryd.results56, go_sem, tab]) rfl ⟨rfl, ?_⟩
  exact (Below.refl _ _).alloc (Nat.le_refl _) _


theorem isSp_step (c x : UInt8) (k : Nat) (hk : k < 9) (hx : x = spB.getD k 0) :
    ((spB.drop k).take (9 - k)).contains c = ((x == c) || ((spB.drop (k + 1)).take (9 - (k + 1))).contains c) := by
  have h1 : spB.drop k = x :: spB.drop (k + 1) := by
    subst hx
    match k, hk with
    | 0, _ => rfl
    | 1, _ => rfl
    | 2, _ => rfl
    | 3, _ => rfl
    | 4, _ => rfl
    | 5, _ => rfl
    | 6, _ => rfl
    | 7, _ => rfl
    | 8, _ => rfl
  rw [h1, show 9 - k = (9 - (k + 1)) + 1 by omega, List.take_succ_cons, List.contains_cons, Bool.beq_comm]

theorem beq_u8 (x c : UInt8) : ((x.toNat : Int) == (c.toNat : Int)) = (x == c) := by
  rw [Bool.eq_iff_iff]; simp only [beq_iff_eq]
  rw [← UInt8.toNat_inj]; omega

set_option maxHeartbeats 400000 in
theorem isSpecial_any (c : UInt8) (w : World) :
    Calls Tryd.prog 37 #[.int .u8 (c.toNat : Int)] w fun e w' => e = .returned (.bool (isSp c)) ∧ Below w.heap.size w w' := by
  go_enter Tryd.func37, Tryd.ntmps37
  go_wp2_with (go_at_call 56; refine (special_any _).mono ?_)
  rintro e w1 ⟨rfl, hb⟩
  go_wp2
  go_loop [6] (fun i => ∃ k : Nat, k ≤ 10 ∧ i = .int .i64 k ∧ Hid (isSp c = ((spB.drop k).take (9 - k)).contains c)) (fun i => 10 - (intOf i).toNat)
  case atStart => exact ⟨0, by omega, rfl, Lib.hid rfl⟩
  case round =>
    obtain ⟨k, hk, rfl, H⟩ := hrel
    by_cases hlt : k < 10
    · obtain ⟨x, hx⟩ : ∃ x, x = spB.getD k 0 := ⟨_, rfl⟩
      have hidx := fun w => run_index_arr (P := Tryd.prog) (w := w) 72 5 10 tab k _ Tryd.underlying72 Tryd.isAgg5 Tryd.sizeOf5 hlt (tab_at k hlt)
      rw [← hx] at hidx
      have HX := Lib.hid hx; clear hx
      by_cases h9 : k < 9
      · by_cases hq : (x == c) = true
        · have hq2 : ((x.toNat : Int) == (c.toNat : Int)) = true := by rw [beq_u8]; exact hq
          have HQ := Lib.hid hq; clear hq
          go_wp2
          go_ret
          refine ⟨?_, hb⟩
          rw [H.out, isSp_step c x k h9 HX.out, HQ.out]; rfl
        · have hq' : (x == c) = false := by simpa using hq
          have hq2 : ((x.toNat : Int) == (c.toNat : Int)) = false := by rw [beq_u8]; exact hq'
          have HQ := Lib.hid hq'; clear hq hq'
          go_wp2
          go_round
          case rel => exact ⟨k + 1, by omega, by go_num, Lib.hid (by rw [H.out, isSp_step c x k h9 HX.out, HQ.out]; rfl)⟩
          case measure => simp [intOf]; omega
      · have hd : decide ((k : Int) < 9) = false := by simp; omega
        have h9' : k = 9 := by omega
        have H9 := Lib.hid h9'; clear h9'
        by_cases hq : (x == c) = true
        all_goals
          first
          | (have hq2 : ((x.toNat : Int) == (c.toNat : Int)) = true := by rw [beq_u8]; exact hq)
          | (have hq2 : ((x.toNat : Int) == (c.toNat : Int)) = false := by rw [beq_u8]; simpa using hq)
          clear hq
          go_wp2
          go_round
          case rel => exact ⟨k + 1, by omega, by go_num, Lib.hid (by rw [H.out, H9.out]; rfl)⟩
          case measure => simp [intOf]; omega
    · have h10 : k = 10 := by omega
      have H10 := Lib.hid h10; clear h10
      go_wp2
      go_ret
      exact ⟨by rw [H.out, H10.out]; rfl, hb⟩

theorem shr4 (c : UInt8) : ((c.toNat : Int) / 16) = (((c >>> 4).toNat : Nat) : Int) ∧ c >>> 4 < 16 := by
  constructor
  · rw [UInt8.toNat_shiftRight]; simp [Nat.shiftRight_eq_div_pow]
  · rw [UInt8.lt_iff_toNat_lt, UInt8.toNat_shiftRight]
    have := c.toNat_lt
    simp [Nat.shiftRight_eq_div_pow]; omega
theorem and15 (c : UInt8) : Go.bits .and .u8 (c.toNat : Int) 15 = (((c &&& 15).toNat : Nat) : Int) ∧ c &&& 15 < 16 := by
  constructor
  · have h1 : (BitVec.ofInt 8 (c.toNat : Int)).toNat = c.toNat := by
      rw [BitVec.ofInt_natCast, BitVec.toNat_ofNat]; exact Nat.mod_eq_of_lt c.toNat_lt
    have h2 : (BitVec.ofInt 8 15).toNat = 15 := by decide
    show IntKind.u8.wrap ((BitVec.ofInt 8 (c.toNat : Int) &&& BitVec.ofInt 8 15).toNat : Int) = _
    have h3 := Nat.and_lt_two_pow c.toNat (show 15 < 2 ^ 4 by decide)
    rw [BitVec.toNat_and, h1, h2, UInt8.toNat_and]
    simp [IntKind.wrap, IntKind.signed, IntKind.bits]
    omega
  · rw [UInt8.lt_iff_toNat_lt, UInt8.toNat_and]
    have := Nat.and_lt_two_pow c.toNat (show 15 < 2 ^ 4 by decide)
    simpa using this

set_option maxHeartbeats 400000 in
theorem sequence_any (c : UInt8) (w : World) :
    Calls Tryd.prog 39 #[.int .u8 (c.toNat : Int)] w fun e w' => e = .returned (.string ⟨(seq3 c).toArray⟩) ∧ Below w.heap.size w w' := by
  have hcv := run_convert_bytes_arg (P := Tryd.prog) (w.alloc (.cells #[.int .u8 92, .int .u8 ((hexd (c >>> 4)).toNat : Int), .int .u8 ((hexd (c &&& 15)).toNat : Int)] 5)) 49 5 Tryd.underlying49 Tryd.underlying5 w.heap.size 0 3 3 [92, ((hexd (c >>> 4)).toNat : Int), ((hexd (c &&& 15)).toNat : Int)] rfl (by
    intro i hi
    match i, hi with
    | 0, _ => simp
    | 1, _ => simp
    | 2, _ => simp) 9 Tryd.underlying9
  go_enter Tryd.func39, Tryd.ntmps39
  go_wp2_with fail
  refine (digit_any _ (c >>> 4) (shr4 c).1 (shr4 c).2 _).mono ?_
  rintro e w1 ⟨rfl, rfl⟩
  go_wp2_with fail
  refine (digit_any _ (c &&& 15) (and15 c).1 (and15 c).2 _).mono ?_
  rintro e w1 ⟨rfl, rfl⟩
  go_wp2
  go_ret
  refine ⟨?_, (Below.refl _ _).alloc (Nat.le_refl _) _⟩
  simp [strOfNums, seq3]

theorem begF_step (l : List UInt8) (x : UInt8) (k : Nat) (hk : k < 10) (hx : x = spB.getD k 0) :
    begF l k = if (seq3 x).isPrefixOf l then some x else begF l (k + 1) := by
  have h1 : spB.drop k = x :: spB.drop (k + 1) := by
    subst hx
    match k, hk with
    | 0, _ => rfl
    | 1, _ => rfl
    | 2, _ => rfl
    | 3, _ => rfl
    | 4, _ => rfl
    | 5, _ => rfl
    | 6, _ => rfl
    | 7, _ => rfl
    | 8, _ => rfl
    | 9, _ => rfl
  unfold begF
  rw [h1, List.find?_cons]
  cases (seq3 x).isPrefixOf l <;> rfl

/-- What begins has found, as a value. -/
def begV (o : Option UInt8) : Value := .tuple #[.int .u8 ((o.getD 0).toNat : Int), .bool o.isSome]


theorem hasPrefix (s p : ByteArray) (l : List UInt8) (hp : p.data.toList = l) (w : World) :
    Calls Tryd.prog 57 #[.string s, .string p] w fun e w' => e = .returned (.bool (l.isPrefixOf s.data.toList)) ∧ w = w' := by
  subst hp
  exact (Tryd.strings_HasPrefix s p w).mono fun e w' ⟨h1, h2⟩ => ⟨h1, h2.symm⟩

set_option maxHeartbeats 400000 in
theorem begins_any (s : ByteArray) (w : World) :
    Calls Tryd.prog 36 #[.string s] w fun e w' => e = .returned (begV (beg s.data.toList)) ∧ Below w.heap.size w w' := by
  go_enter Tryd.func36, Tryd.ntmps36
  go_wp2_with (go_at_call 56; refine (special_any _).mono ?_)
  rintro e w1 ⟨rfl, hb⟩
  go_wp2
  go_loopw [7] (fun i wr => ∃ k : Nat, k ≤ 10 ∧ i = .int .i64 k ∧ Hid (beg s.data.toList = begF s.data.toList k) ∧ Below w.heap.size w wr) (fun i _ => 10 - (intOf i).toNat)
  case atStart => exact ⟨0, by omega, rfl, Lib.hid rfl, hb⟩
  case round =>
    obtain ⟨k, hk, rfl, H, hbw⟩ := hrel
    by_cases hlt : k < 10
    · obtain ⟨x, hx⟩ : ∃ x, x = spB.getD k 0 := ⟨_, rfl⟩
      have hidx := fun w => run_index_arr (P := Tryd.prog) (w := w) 72 5 10 tab k _ Tryd.underlying72 Tryd.isAgg5 Tryd.sizeOf5 hlt (tab_at k hlt)
      rw [← hx] at hidx
      have HX := Lib.hid hx; clear hx
      have hsz := hbw.size
      go_wp2_with fail
      refine (sequence_any x _).mono ?_
      rintro e w2 ⟨rfl, hb2⟩
      have hb3 : Below w.heap.size w w2 := hbw.trans (hb2.mono hsz)
      clear hb2
      go_wp2_with fail
      refine (hasPrefix s _ (seq3 x) (by simp) _).mono ?_
      rintro e w3 ⟨rfl, rfl⟩
      cases hq : (seq3 x).isPrefixOf s.data.toList with
      | true =>
        have HQ := Lib.hid hq; clear hq
        go_wp2
        go_ret2
        refine ⟨?_, hb3⟩
        rw [H.out, begF_step _ x k hlt HX.out, HQ.out]; rfl
      | false =>
        have HQ := Lib.hid hq; clear hq
        go_wp2
        go_roundw
        case rel => exact ⟨k + 1, by omega, by go_num, Lib.hid (by rw [H.out, begF_step _ x k hlt HX.out, HQ.out]; rfl), hb3⟩
        case measure => simp [intOf]; omega
    · have h10 : k = 10 := by omega
      have H10 := Lib.hid h10; clear h10
      go_wp2
      go_ret2
      exact ⟨by rw [H.out, H10.out]; rfl, hbw⟩

end Go.Proofs.YtnaimienfgpgmaaDoor.Esc

/- escape.Escape and escape.Unescape at this translation: what they return, for every text of at most 2^45 bytes. -/
set_option linter.unusedVariables false
set_option linter.unusedSimpArgs false
namespace Go.Proofs.YtnaimienfgpgmaaDoor.Esc
open Go.RowKit EscP

theorem u8_at (s : ByteArray) (k : Nat) (h : k < s.size) : s.data.toList.drop k = s[k] :: s.data.toList.drop (k + 1) := by
  rw [List.drop_eq_getElem_cons (by simpa using h)]; rfl
theorem len_data (s : ByteArray) : s.data.toList.length = s.size := by rw [Array.length_toList]; rfl
theorem drop_data (s : ByteArray) (k : Nat) : (s.extract k s.size).data.toList = s.data.toList.drop k := by
  rw [Lib.extract_data, ← len_data s, ← List.drop_take, List.take_length]
theorem eq32 (c : UInt8) : ((c.toNat : Int) == 32) = (c == 32) := beq_u8 c 32
theorem bad_eq (s : ByteArray) (h : 0 < s.size) : bad s.data.toList = (((s[0]'h).toNat : Int) == 32 || ((s[s.size - 1]'(by omega)).toNat : Int) == 32) := by
  have hl := len_data s
  have h1 : s.data.toList.head? = some (s[0]'h) := by
    rw [List.head?_eq_getElem?, List.getElem?_eq_getElem (by omega)]; rfl
  have h2 : s.data.toList.getLast? = some (s[s.size - 1]'(by omega)) := by
    rw [List.getLast?_eq_getElem?, List.getElem?_eq_getElem (by omega)]; simp [hl]; rfl
  have h3 : s.data.toList.isEmpty = false := by
    rw [List.isEmpty_eq_false_iff]; intro hn; rw [hn] at hl; simp at hl; omega
  unfold bad
  rw [h1, h2, h3, eq32, eq32]
  simp

set_option maxHeartbeats 1000000 in
theorem Escape_bad (s : ByteArray) (hs : s.size ≤ 35184372088832) (hb : bad s.data.toList = true) (w : World) :
    Calls Tryd.prog 27 #[.string s] w fun e w' => e = .returned (.tuple #[.string ByteArray.empty, .int .i64 20]) ∧ Below w.heap.size w w' := by
  have HB := Lib.hid hb; clear hb
  rcases Nat.eq_zero_or_pos s.size with h0 | hp
  · have h1 : s.toList = [] := List.eq_nil_of_length_eq_zero (by rw [Lib.toList_data, len_data]; exact h0)
    clear h0
    go_enter Tryd.func27, Tryd.ntmps27
    go_wp2_with fail
    go_ret2; exact ⟨rfl, Below.refl _ _⟩
  · have h1 : s.toList.isEmpty = false := by
      rw [List.isEmpty_eq_false_iff]; intro hn
      have : s.toList.length = s.size := by rw [Lib.toList_data]; exact len_data s
      rw [hn] at this; simp at this; omega
    go_enter Tryd.func27, Tryd.ntmps27
    go_wp2_with fail
    all_goals first
    | (go_ret2; exact ⟨rfl, Below.refl _ _⟩)
    | (exfalso
       have hw : (((s[0]'hp).toNat : Int) == 32) = false ∧ (((s[s.size - 1]'(by omega)).toNat : Int) == 32) = false := by assumption
       have := HB.out
       rw [bad_eq s hp, hw.1, hw.2] at this
       cases this)
    | skip
    go_ways

theorem escG_step (s : ByteArray) (k : Nat) (h : k < s.size) :
    escG (s.data.toList.drop k) = (if (beg (s.data.toList.drop k)).isSome || isSp s[k] then seq3 s[k] else [s[k]]) ++ escG (s.data.toList.drop (k + 1)) := by
  rw [u8_at s k h]; rfl

set_option maxHeartbeats 2000000 in
theorem Escape_good (s : ByteArray) (hs : s.size ≤ 35184372088832) (hb : bad s.data.toList = false) (w : World) :
    Calls Tryd.prog 27 #[.string s] w fun e w' => e = .returned (.tuple #[.string ⟨(escG s.data.toList).toArray⟩, .int .i64 0]) ∧ Below w.heap.size w w' := by
  have hp : 0 < s.size := by
    rcases Nat.eq_zero_or_pos s.size with h | h
    · have : s.data.toList = [] := List.eq_nil_of_length_eq_zero (by rw [len_data]; exact h)
      rw [this] at hb; cases hb
    · exact h
  rw [bad_eq s hp, Bool.or_eq_false_iff] at hb
  obtain ⟨hb1, hb2⟩ := hb
  have hb0 : s.toList.isEmpty = false := by
    rw [List.isEmpty_eq_false_iff]; intro hn
    have : s.toList.length = s.size := by rw [Lib.toList_data]; exact len_data s
    rw [hn] at this; simp at this; omega
  go_enter Tryd.func27, Tryd.ntmps27
  go_wp2_with fail
  clear hb0 hb1 hb2
  go_loopw [25] (fun i wr => ∃ (k : Nat) (acc : List UInt8), k ≤ s.size ∧ i = .int .i64 k ∧ Hid (Bld.Is w.heap.size w.heap.size (Lib.byteCells acc) wr) ∧ Below w.heap.size w wr ∧ Hid (acc ++ escG (s.data.toList.drop k) = escG s.data.toList) ∧ acc.length ≤ 3 * k) (fun i _ => s.size - (intOf i).toNat)
  case atStart =>
    exact ⟨0, [], by omega, rfl, Lib.hid (Lib.IsBuilderF.of (Lib.fresh_isBuilder _ _ w)), (Below.refl _ w).alloc (Nat.le_refl _) _, Lib.hid rfl, by simp⟩
  case round =>
    obtain ⟨k, acc, hk, rfl, HI, hbw, HA, hal⟩ := hrel
    by_cases hlt : k < s.size
    · go_wp2_with fail
      refine (begins_any _ _).mono ?_
      rintro e w2 ⟨rfl, hb2⟩
      have hI2 := HI.out.below hb2
      have hsz : w.heap.size ≤ wr.heap.size := hbw.size
      have hbw2 : Below w.heap.size w w2 := hbw.trans (hb2.mono hsz)
      have HI2 := Lib.hid hI2; clear hI2 HI hb2
      rw [drop_data]
      obtain ⟨o, ho⟩ : ∃ o, o = beg (s.data.toList.drop k) := ⟨_, rfl⟩
      rw [← ho]
      have HO := Lib.hid ho; clear ho
      have hst := Lib.hid (escG_step s k hlt)
      cases hq : o.isSome with
      | true =>
        have HQ := Lib.hid hq; clear hq
        obtain ⟨x, hx⟩ : ∃ x : Int, x = ((o.getD 0).toNat : Int) := ⟨_, rfl⟩
        rw [show begV o = .tuple #[.int .u8 x, .bool true] from by rw [hx, ← HQ.out]; rfl]
        clear hx
        go_wp2_with fail
        refine (sequence_any _ _).mono ?_
        rintro e w3 ⟨rfl, hb3⟩
        have hI3 := HI2.out.below hb3
        have hsz2 : w.heap.size ≤ w2.heap.size := hbw2.size
        have hbw3 : Below w.heap.size w w3 := hbw2.trans (hb3.mono hsz2)
        have hsz3 := hbw3.size
        have HI3 := Lib.hid hI3; clear hI3 HI2 hb3
        go_wp2_with fail
        refine (Bld.put_str _ _ acc (seq3 s[k]) _ (by simp) _ HI3.out (by simp [seq3_len]; omega) hsz3).mono ?_
        rintro e w4 ⟨rfl, hI4, hb4, _⟩
        have HI4 := Lib.hid hI4; clear hI4 HI3
        go_wp2
        go_roundw
        case rel => exact ⟨k + 1, acc ++ seq3 s[k], by omega, by go_num, HI4, hbw3.trans hb4, Lib.hid (by rw [← HA.out, hst.out, HO.out.symm, HQ.out]; simp), by simp [seq3_len]; omega⟩
        case measure => simp [intOf]; omega
      | false =>
        have HQ := Lib.hid hq; clear hq
        obtain ⟨x, hx⟩ : ∃ x : Int, x = ((o.getD 0).toNat : Int) := ⟨_, rfl⟩
        rw [show begV o = .tuple #[.int .u8 x, .bool false] from by rw [hx, ← HQ.out]; rfl]
        clear hx
        go_wp2_with fail
        refine (isSpecial_any _ _).mono ?_
        rintro e w3 ⟨rfl, hb3⟩
        have hI3 := HI2.out.below hb3
        have hsz2 : w.heap.size ≤ w2.heap.size := hbw2.size
        have hbw3 : Below w.heap.size w w3 := hbw2.trans (hb3.mono hsz2)
        have hsz3 := hbw3.size
        have HI3 := Lib.hid hI3; clear hI3 HI2 hb3
        cases hsp : isSp s[k] with
        | true =>
          have HSP := Lib.hid hsp; clear hsp
          go_wp2_with fail
          refine (sequence_any _ _).mono ?_
          rintro e w4 ⟨rfl, hb4⟩
          have hI4 := HI3.out.below hb4
          have hbw4 : Below w.heap.size w w4 := hbw3.trans (hb4.mono hsz3)
          have hsz4 := hbw4.size
          have HI4 := Lib.hid hI4; clear hI4 HI3 hb4
          go_wp2_with fail
          refine (Bld.put_str _ _ acc (seq3 s[k]) _ (by simp) _ HI4.out (by simp [seq3_len]; omega) hsz4).mono ?_
          rintro e w5 ⟨rfl, hI5, hb5, _⟩
          have HI5 := Lib.hid hI5; clear hI5 HI4
          go_wp2
          go_roundw
          case rel => exact ⟨k + 1, acc ++ seq3 s[k], by omega, by go_num, HI5, hbw4.trans hb5, Lib.hid (by rw [← HA.out, hst.out, HO.out.symm, HQ.out, HSP.out]; simp), by simp [seq3_len]; omega⟩
          case measure => simp [intOf]; omega
        | false =>
          have HSP := Lib.hid hsp; clear hsp
          go_wp2_with fail
          refine (Bld.put_byte _ _ acc s[k] _ rfl _ HI3.out (by omega) hsz3).mono ?_
          rintro e w5 ⟨rfl, hI5, hb5, _⟩
          have HI5 := Lib.hid hI5; clear hI5 HI3
          go_wp2
          go_roundw
          case rel => exact ⟨k + 1, acc ++ [s[k]], by omega, by go_num, HI5, hbw3.trans hb5, Lib.hid (by rw [← HA.out, hst.out, HO.out.symm, HQ.out, HSP.out]; simp), by simp; omega⟩
          case measure => simp [intOf]; omega
    · have hsz := hbw.size
      have hkk : k = s.size := by omega
      have HK := Lib.hid hkk; clear hkk
      go_wp2_with fail
      refine (Bld.text _ _ acc _ HI.out hsz).mono ?_
      rintro e w2 ⟨rfl, hb2⟩
      go_wp2
      go_ret2
      refine ⟨?_, hbw.trans hb2⟩
      rw [← HA.out, HK.out, List.drop_eq_nil_of_le (by rw [len_data]; omega)]
      simp [escG]

theorem isPrefixOf_drop (a l : List UInt8) (h : a.isPrefixOf l = true) : ∃ r, l = a ++ r := by
  rw [List.isPrefixOf_iff_prefix] at h
  obtain ⟨r, hr⟩ := h
  exact ⟨r, hr.symm⟩
/-- Where an escape begins there are three bytes. -/
theorem beg_len (l : List UInt8) (x : UInt8) (h : beg l = some x) : 3 ≤ l.length := by
  have := List.find?_some h
  obtain ⟨r, hr⟩ := isPrefixOf_drop _ _ this
  rw [hr, List.length_append, seq3_len]; omega
theorem unG_hit (s : ByteArray) (k f : Nat) (st : Bool) (hk : k < s.size) (x : UInt8) (h : beg (s.data.toList.drop k) = some x) (hc : (x != 32 || (!st && decide (k + 3 < s.size))) = true) :
    unG (f + 1) st (s.data.toList.drop k) = x :: unG f false (s.data.toList.drop (k + 3)) := by
  have hl : (s.data.toList.drop (k + 1)).length + 1 = s.size - k := by rw [List.length_drop, len_data]; omega
  rw [u8_at s k hk] at h ⊢
  simp only [unG, h]
  rw [List.length_cons, hl, show decide (3 < s.size - k) = decide (k + 3 < s.size) from by rw [decide_eq_decide]; omega, if_pos hc, List.drop_drop, show k + 1 + 2 = k + 3 by omega]
theorem unG_miss (s : ByteArray) (k f : Nat) (st : Bool) (hk : k < s.size) (h : ∀ x, beg (s.data.toList.drop k) = some x → (x != 32 || (!st && decide (k + 3 < s.size))) = false) :
    unG (f + 1) st (s.data.toList.drop k) = s[k] :: unG f false (s.data.toList.drop (k + 1)) := by
  have hl : (s.data.toList.drop (k + 1)).length + 1 = s.size - k := by rw [List.length_drop, len_data]; omega
  rw [u8_at s k hk] at h ⊢
  cases hb : beg (s[k] :: s.data.toList.drop (k + 1)) with
  | none => simp only [unG, hb]
  | some x =>
    have := h x hb
    simp only [unG, hb]
    rw [List.length_cons, hl, show decide (3 < s.size - k) = decide (k + 3 < s.size) from by rw [decide_eq_decide]; omega, this]; rfl

set_option maxHeartbeats 2000000 in
theorem Unescape_any (s : ByteArray) (hs : s.size ≤ 35184372088832) (w : World) :
    Calls Tryd.prog 31 #[.string s] w fun e w' => e = .returned (.string ⟨(un s.data.toList).toArray⟩) ∧ Below w.heap.size w w' := by
  go_enter Tryd.func31, Tryd.ntmps31
  go_wp2_with fail
  go_loopw [4] (fun i wr => ∃ (k f : Nat) (acc : List UInt8), k ≤ s.size ∧ i = .int .i64 k ∧ Hid (Bld.Is w.heap.size w.heap.size (Lib.byteCells acc) wr) ∧ Below w.heap.size w wr ∧ Hid (acc ++ unG f (k == 0) (s.data.toList.drop k) = un s.data.toList) ∧ acc.length ≤ k ∧ s.size ≤ k + f) (fun i _ => s.size - (intOf i).toNat)
  case atStart =>
    exact ⟨0, s.size, [], by omega, rfl, Lib.hid (Bld.fresh w), (Below.refl _ w).alloc (Nat.le_refl _) _, Lib.hid (by rw [un, len_data]; rfl), by simp, by omega⟩
  case round =>
    obtain ⟨k, f, acc, hk, rfl, HI, hbw, HA, hal, hf⟩ := hrel
    by_cases hlt : k < s.size
    · obtain ⟨f, rfl⟩ : ∃ g, f = g + 1 := ⟨f - 1, by omega⟩
      go_wp2_with fail
      refine (begins_any _ _).mono ?_
      rintro e w2 ⟨rfl, hb2⟩
      have hI2 := HI.out.below hb2
      have hsz : w.heap.size ≤ wr.heap.size := hbw.size
      have hbw2 : Below w.heap.size w w2 := hbw.trans (hb2.mono hsz)
      have hsz2 := hbw2.size
      have HI2 := Lib.hid hI2; clear hI2 HI hb2
      rw [drop_data]
      obtain ⟨o, ho⟩ : ∃ o, o = beg (s.data.toList.drop k) := ⟨_, rfl⟩
      rw [← ho]
      cases o with
      | none =>
        have hm := Lib.hid (unG_miss s k f (k == 0) hlt (by intro x hx; rw [← ho] at hx; cases hx))
        clear ho
        rw [show begV none = .tuple #[.int .u8 0, .bool false] from rfl]
        go_wp2_with fail
        refine (Bld.put_byte _ _ acc s[k] _ rfl _ HI2.out (by omega) hsz2).mono ?_
        rintro e w5 ⟨rfl, hI5, hb5, _⟩
        have HI5 := Lib.hid hI5; clear hI5 HI2
        go_wp2
        go_roundw
        case rel => exact ⟨k + 1, f, acc ++ [s[k]], by omega, by go_num, HI5, hbw2.trans hb5, Lib.hid (by rw [← HA.out, hm.out]; simp), by simp; omega, by omega⟩
        case measure => simp [intOf]; omega
      | some x =>
        have h3 : k + 3 ≤ s.size := by
          have := beg_len _ x ho.symm
          rw [List.length_drop, len_data] at this; omega
        have HO := Lib.hid ho; clear ho
        rw [show begV (some x) = .tuple #[.int .u8 (x.toNat : Int), .bool true] from rfl]
        by_cases hx : (x == 32) = true
        · have hne : ((x.toNat : Int) != 32) = false := by rw [bne, eq32, hx]; rfl
          by_cases hc : 0 < k ∧ k + 3 < s.size
          · obtain ⟨h0, hc⟩ := hc
            have hm := Lib.hid (unG_hit s k f (k == 0) hlt x HO.out.symm (by simp; omega))
            have HX := Lib.hid hx; clear hx
            go_wp2_with fail
            refine (Bld.put_byte _ _ acc x _ rfl _ HI2.out (by omega) hsz2).mono ?_
            rintro e w5 ⟨rfl, hI5, hb5, _⟩
            have HI5 := Lib.hid hI5; clear hI5 HI2
            go_wp2
            go_roundw
            case rel => exact ⟨k + 3, f, acc ++ [x], by omega, by go_num, HI5, hbw2.trans hb5, Lib.hid (by rw [← HA.out, hm.out]; simp), by simp; omega, by omega⟩
            case measure => simp [intOf]; omega
          · have hm := Lib.hid (unG_miss s k f (k == 0) hlt (by
              intro y hy; rw [← HO.out] at hy; cases hy
              rw [bne, hx]; simp; omega))
            have HX := Lib.hid hx; clear hx
            by_cases h0 : 0 < k
            · have hc' : ¬ (k + 3 < s.size) := fun h => hc ⟨h0, h⟩
              clear hc
              go_wp2_with fail
              refine (Bld.put_byte _ _ acc s[k] _ rfl _ HI2.out (by omega) hsz2).mono ?_
              rintro e w5 ⟨rfl, hI5, hb5, _⟩
              have HI5 := Lib.hid hI5; clear hI5 HI2
              go_wp2
              go_roundw
              case rel => exact ⟨k + 1, f, acc ++ [s[k]], by omega, by go_num, HI5, hbw2.trans hb5, Lib.hid (by rw [← HA.out, hm.out]; simp), by simp; omega, by omega⟩
              case measure => simp [intOf]; omega
            · clear hc
              go_wp2_with fail
              refine (Bld.put_byte _ _ acc s[k] _ rfl _ HI2.out (by omega) hsz2).mono ?_
              rintro e w5 ⟨rfl, hI5, hb5, _⟩
              have HI5 := Lib.hid hI5; clear hI5 HI2
              go_wp2
              go_roundw
              case rel => exact ⟨k + 1, f, acc ++ [s[k]], by omega, by go_num, HI5, hbw2.trans hb5, Lib.hid (by rw [← HA.out, hm.out]; simp), by simp; omega, by omega⟩
              case measure => simp [intOf]; omega
        · have hx' : (x == 32) = false := by simpa using hx
          clear hx
          have hne : ((x.toNat : Int) != 32) = true := by rw [bne, eq32, hx']; rfl
          have hm := Lib.hid (unG_hit s k f (k == 0) hlt x HO.out.symm (by rw [bne, hx']; rfl))
          have HX := Lib.hid hx'; clear hx'
          go_wp2_with fail
          refine (Bld.put_byte _ _ acc x _ rfl _ HI2.out (by omega) hsz2).mono ?_
          rintro e w5 ⟨rfl, hI5, hb5, _⟩
          have HI5 := Lib.hid hI5; clear hI5 HI2
          go_wp2
          go_roundw
          case rel => exact ⟨k + 3, f, acc ++ [x], by omega, by go_num, HI5, hbw2.trans hb5, Lib.hid (by rw [← HA.out, hm.out]; simp), by simp; omega, by omega⟩
          case measure => simp [intOf]; omega
    · have hsz := hbw.size
      have hkk : k = s.size := by omega
      have HK := Lib.hid hkk; clear hkk
      go_wp2_with fail
      refine (Bld.text _ _ acc _ HI.out hsz).mono ?_
      rintro e w2 ⟨rfl, hb2⟩
      go_wp2
      go_ret
      refine ⟨?_, hbw.trans hb2⟩
      rw [← HA.out, HK.out, List.drop_eq_nil_of_le (by rw [len_data]; omega)]
      cases f <;> simp [unG]
end Go.Proofs.YtnaimienfgpgmaaDoor.Esc

/- The reference's functions of layer 2 at this translation: they return what escape.Escape, Unescape and Is return. -/
set_option linter.unusedVariables false
set_option linter.unusedSimpArgs false
namespace Go.Proofs.YtnaimienfgpgmaaDoor.Esc
open Go.RowKit EscP

def spS : ByteArray := ⟨#[32, 34, 38, 39, 47, 58, 60, 62, 64, 92]⟩
theorem spS_at (k : Nat) (h : k < 10) (h' : k < spS.size) : spS[k] = spB.getD k 0 := by
  match k, h with
  | 0, _ => rfl
  | 1, _ => rfl
  | 2, _ => rfl
  | 3, _ => rfl
  | 4, _ => rfl
  | 5, _ => rfl
  | 6, _ => rfl
  | 7, _ => rfl
  | 8, _ => rfl
  | 9, _ => rfl

theorem rbytes_any (w : World) :
    Calls Tryd.prog 47 #[] w fun e w' => e = .returned (.string spS) ∧ w = w' := by
  go_enter Tryd.func47, Tryd.ntmps47
  go_wp2
  go_ret
  exact ⟨rfl, rfl⟩

def digS : Array Value := #[.string ⟨#[50, 48]⟩, .string ⟨#[50, 50]⟩, .string ⟨#[50, 54]⟩, .string ⟨#[50, 55]⟩, .string ⟨#[50, 102]⟩, .string ⟨#[51, 97]⟩, .string ⟨#[51, 99]⟩, .string ⟨#[51, 101]⟩, .string ⟨#[52, 48]⟩, .string ⟨#[53, 99]⟩]
/-- The digits of the escape of the table's byte k. -/
def dig (k : Nat) : ByteArray := ⟨((seq3 (spB.getD k 0)).drop 1).toArray⟩
theorem digS_at (k : Nat) (h : k < 10) : digS[k]? = some (.string (dig k)) := by
  match k, h with
  | 0, _ => rfl
  | 1, _ => rfl
  | 2, _ => rfl
  | 3, _ => rfl
  | 4, _ => rfl
  | 5, _ => rfl
  | 6, _ => rfl
  | 7, _ => rfl
  | 8, _ => rfl
  | 9, _ => rfl
theorem dig_data (k : Nat) : (dig k).data.toList = (seq3 (spB.getD k 0)).drop 1 := rfl

/-- The digits lie in block g. -/
def HasDigs (g : Nat) (w : World) : Prop := ∀ k, k < 10 → w.cell? ⟨g, k, none⟩ = some (.string (dig k))
theorem digits_any (w : World) :
    Calls Tryd.prog 49 #[] w fun e w' => ∃ g, e = .returned (.slice (some ⟨g, 0, none⟩) 10 10) ∧ Below w.heap.size w w' ∧ HasDigs g w' := by
  go_enter Tryd.func49, Tryd.ntmps49
  go_wp2
  go_ret
  refine ⟨w.heap.size, rfl, (Below.refl _ _).alloc (Nat.le_refl _) _, fun k hk => ?_⟩
  rw [World.cell?_alloc_at _ _ _ _ rfl]
  exact digS_at k hk


/-- The place of the byte for which the escape at the front stands; -1: there is none. -/
def atI (l : List UInt8) : Int := match beg l with | none => -1 | some x => (spB.idxOf x : Int)

theorem beg_head (l : List UInt8) (x : UInt8) (h : beg l = some x) : l.head? = some 92 := by
  have := List.find?_some h
  obtain ⟨r, hr⟩ := isPrefixOf_drop _ _ this
  rw [hr]; rfl
theorem pre_dig (s : ByteArray) (k : Nat) (h3 : 3 ≤ s.size) (h0 : s.data.toList.head? = some 92) :
    (seq3 (spB.getD k 0)).isPrefixOf s.data.toList = ((dig k).toList == (s.extract 1 3).toList) := by
  rw [Lib.toList_data, Lib.toList_data, dig_data, Lib.extract_data]
  have hl := len_data s
  revert h0 hl
  generalize s.data.toList = l
  intro h0 hl
  match l, h0 with
  | a :: l, h0 =>
    obtain rfl : a = 92 := by simpa using h0
    match l, hl with
    | b :: c :: r, _ => simp [seq3, List.isPrefixOf]
    | [], hl => simp at hl; omega
    | [b], hl => simp at hl; omega
theorem idx_of (k : Nat) (h : k < 10) : spB.idxOf (spB.getD k 0) = k := by
  match k, h with
  | 0, _ => rfl
  | 1, _ => rfl
  | 2, _ => rfl
  | 3, _ => rfl
  | 4, _ => rfl
  | 5, _ => rfl
  | 6, _ => rfl
  | 7, _ => rfl
  | 8, _ => rfl
  | 9, _ => rfl

set_option maxHeartbeats 1000000 in
theorem at_any (s : ByteArray) (hs : s.size ≤ 35184372088832) (w : World) :
    Calls Tryd.prog 48 #[.string s] w fun e w' => e = .returned (.int .i64 (atI s.data.toList)) ∧ Below w.heap.size w w' := by
  by_cases h3 : s.size < 3
  · have ha : atI s.data.toList = -1 := by
      unfold atI
      cases hb : beg s.data.toList with
      | none => rfl
      | some x => have := beg_len _ _ hb; rw [len_data] at this; omega
    have HA := Lib.hid ha; clear ha
    go_enter Tryd.func48, Tryd.ntmps48
    go_wp2
    go_ret
    exact ⟨by rw [HA.out]; rfl, Below.refl _ _⟩
  · have h3' : 3 ≤ s.size := by omega
    have hp : 0 < s.size := by omega
    have hh : s.data.toList.head? = some s[0] := by
      rw [List.head?_eq_getElem?, List.getElem?_eq_getElem (by rw [len_data]; omega)]; rfl
    by_cases h92 : (s[0] == 92) = true
    · have hne : ((s[0].toNat : Int) != 92) = false := by
        rw [bne, show ((s[0].toNat : Int) == 92) = (s[0] == 92) from beq_u8 _ 92, h92]; rfl
      have h92' : s[0] = 92 := by simpa using h92
      rw [h92'] at hh
      have HH := Lib.hid hh; clear hh h92 h92'
      go_enter Tryd.func48, Tryd.ntmps48
      go_wp2_with fail
      refine (digits_any _).mono ?_
      rintro e w1 ⟨g, rfl, hb, hd⟩
      clear hne
      go_wp2
      go_loopw [4] (fun i wr => ∃ k : Nat, k ≤ 10 ∧ i = .int .i64 k ∧ Hid (beg s.data.toList = begF s.data.toList k) ∧ Hid (HasDigs g wr) ∧ Below w.heap.size w wr) (fun i _ => 10 - (intOf i).toNat)
      case atStart => exact ⟨0, by omega, rfl, Lib.hid rfl, Lib.hid hd, hb⟩
      case round =>
        obtain ⟨k, hk, rfl, H, HD, hbw⟩ := hrel
        clear hd
        by_cases hlt : k < 10
        · have hcell := HD.out k hlt
          obtain ⟨d, hd⟩ : ∃ d, d = dig k := ⟨_, rfl⟩
          rw [← hd] at hcell
          have hpre := pre_dig s k h3' HH.out
          rw [← hd] at hpre
          clear hd
          cases hq : (d.toList == (s.extract 1 3).toList) with
          | true =>
            have HQ := Lib.hid (hpre.trans hq); clear hpre
            go_wp2
            go_quiet (fail)
            go_wp2
            go_ret
            refine ⟨?_, ?_⟩
            · unfold atI
              rw [H.out, begF_step _ _ k hlt rfl, HQ.out]
              simp only [if_true]
              rw [idx_of k hlt]; rfl
            · exact U.below_drewN hbw _
          | false =>
            have HQ := Lib.hid (hpre.trans hq); clear hpre
            go_wp2
            go_quiet (fail)
            go_wp2
            go_roundw
            case rel => exact ⟨k + 1, by omega, by go_num, Lib.hid (by rw [H.out, begF_step _ _ k hlt rfl, HQ.out]; rfl), Lib.hid (fun k hk => HD.out k hk), U.below_drewN hbw _⟩
            case measure => simp [intOf]; omega
        · have h10 : k = 10 := by omega
          have H10 := Lib.hid h10; clear h10
          go_wp2
          go_ret
          exact ⟨by unfold atI; rw [H.out, H10.out]; rfl, hbw⟩
    · have h92' : (s[0] == 92) = false := by simpa using h92
      have hne : ((s[0].toNat : Int) != 92) = true := by
        rw [bne, show ((s[0].toNat : Int) == 92) = (s[0] == 92) from beq_u8 _ 92, h92']; rfl
      have ha : atI s.data.toList = -1 := by
        unfold atI
        cases hb : beg s.data.toList with
        | none => rfl
        | some x => have := beg_head _ _ hb; rw [hh] at this; simp at this; simp [this] at h92'
      have HA := Lib.hid ha; clear ha hh h92 h92'
      go_enter Tryd.func48, Tryd.ntmps48
      go_wp2
      go_ret
      exact ⟨by rw [HA.out]; rfl, Below.refl _ _⟩


/-- The last place among the first k of the table where a byte stands; -1: none. -/
def lastHit (c : UInt8) : Nat → Int
  | 0 => -1
  | k + 1 => if spB.getD k 0 = c then (k : Int) else lastHit c k
theorem lastHit_no (c : UInt8) (h : isSp c = false) : lastHit c 9 = -1 := by
  simp [isSp, spB] at h
  simp [lastHit, spB, List.getD]
  simp [h, eq_comm]
theorem lastHit_yes (c : UInt8) (h : isSp c = true) : ∃ k : Nat, k < 9 ∧ lastHit c 9 = (k : Int) ∧ spB.getD k 0 = c := by
  simp [isSp, spB] at h
  rcases h with rfl | rfl | rfl | rfl | rfl | rfl | rfl | rfl | rfl
  · exact ⟨0, by decide, by decide, rfl⟩
  · exact ⟨1, by decide, by decide, rfl⟩
  · exact ⟨2, by decide, by decide, rfl⟩
  · exact ⟨3, by decide, by decide, rfl⟩
  · exact ⟨4, by decide, by decide, rfl⟩
  · exact ⟨5, by decide, by decide, rfl⟩
  · exact ⟨6, by decide, by decide, rfl⟩
  · exact ⟨7, by decide, by decide, rfl⟩
  · exact ⟨8, by decide, by decide, rfl⟩
theorem atI_none (l : List UInt8) (h : beg l = none) : atI l = -1 := by unfold atI; rw [h]
theorem beg_mem (l : List UInt8) (x : UInt8) (h : beg l = some x) : x ∈ spB := by
  unfold beg begF at h
  exact List.mem_of_find?_eq_some h
theorem atI_some (l : List UInt8) (x : UInt8) (h : beg l = some x) : ∃ k : Nat, k < 10 ∧ atI l = (k : Int) ∧ spB.getD k 0 = x := by
  have hm := beg_mem l x h
  have hi : spB.idxOf x < 10 := List.idxOf_lt_length_of_mem hm
  refine ⟨spB.idxOf x, hi, by unfold atI; rw [h], ?_⟩
  rw [List.getD_eq_getElem?_getD, List.getElem?_eq_getElem hi, List.getElem_idxOf hi]; rfl

set_option maxHeartbeats 1000000 in
theorem REscape_bad (s : ByteArray) (hs : s.size ≤ 35184372088832) (hb : bad s.data.toList = true) (w : World) :
    Calls Tryd.prog 29 #[.string s] w fun e w' => e = .returned (.tuple #[.string ByteArray.empty, .int .i64 20]) ∧ Below w.heap.size w w' := by
  have HB := Lib.hid hb; clear hb
  rcases Nat.eq_zero_or_pos s.size with h0 | hp
  · have h1 : s.toList = [] := U.toList_nil s h0
    clear h0
    go_enter Tryd.func29, Tryd.ntmps29
    go_wp2_with fail
    go_ret2; exact ⟨rfl, Below.refl _ _⟩
  · have h1 : s.toList.isEmpty = false := U.isEmpty_false s hp
    go_enter Tryd.func29, Tryd.ntmps29
    go_wp2_with fail
    all_goals first
    | (go_ret2; exact ⟨rfl, Below.refl _ _⟩)
    | (exfalso
       have hw : (((s[0]'hp).toNat : Int) == 32) = false ∧ (((s[s.size - 1]'(by omega)).toNat : Int) == 32) = false := by assumption
       have := HB.out
       rw [bad_eq s hp, hw.1, hw.2] at this
       cases this)

set_option maxHeartbeats 2000000 in
theorem REscape_good (s : ByteArray) (hs : s.size ≤ 35184372088832) (hb : bad s.data.toList = false) (w : World) :
    Calls Tryd.prog 29 #[.string s] w fun e w' => e = .returned (.tuple #[.string ⟨(escG s.data.toList).toArray⟩, .int .i64 0]) ∧ Below w.heap.size w w' := by
  have hp : 0 < s.size := by
    rcases Nat.eq_zero_or_pos s.size with h | h
    · have : s.data.toList = [] := List.eq_nil_of_length_eq_zero (by rw [len_data]; exact h)
      rw [this] at hb; cases hb
    · exact h
  rw [bad_eq s hp, Bool.or_eq_false_iff] at hb
  obtain ⟨hb1, hb2⟩ := hb
  have hb0 : s.toList.isEmpty = false := U.isEmpty_false s hp
  go_enter Tryd.func29, Tryd.ntmps29
  go_wp2_with fail
  clear hb0 hb1 hb2
  go_loopw [4, 5] (fun o i wr => ∃ (k : Nat) (acc : ByteArray), k ≤ s.size ∧ o = .string acc ∧ i = .int .i64 k ∧ Below w.heap.size w wr ∧ Hid (acc.data.toList ++ escG (s.data.toList.drop k) = escG s.data.toList) ∧ acc.size ≤ 3 * k) (fun _ i _ => s.size - (intOf i).toNat)
  case atStart =>
    exact ⟨0, ⟨#[]⟩, by omega, rfl, rfl, Below.refl _ w, Lib.hid rfl, by simp [ByteArray.size]⟩
  case round =>
    obtain ⟨k, acc, hk, rfl, rfl, hbw, HA, hal⟩ := hrel
    by_cases hlt : k < s.size
    · go_wp2_with fail
      refine (rbytes_any _).mono ?_
      rintro e w2 ⟨rfl, rfl⟩
      go_wp2_with fail
      obtain ⟨wo, hwo⟩ : ∃ wo : World, wo = wr := ⟨_, rfl⟩
      obtain ⟨c, hc⟩ : ∃ c : UInt8, c = s[k] := ⟨_, rfl⟩
      have HC := Lib.hid hc
      go_loopw [6, 8] (fun q j wr => ∃ (m : Nat) (z : Int), m ≤ 9 ∧ j = .int .i64 m ∧ q = .int .i64 z ∧ Hid (z = lastHit c m) ∧ Below w.heap.size w wr) (fun _ j _ => 9 - (intOf j).toNat)
      case atStart => exact ⟨0, -1, by omega, rfl, rfl, Lib.hid rfl, hbw⟩
      case round =>
        obtain ⟨m, z, hm, rfl, rfl, HZ, hbi⟩ := hrel
        by_cases hm9 : m < 9
        · have hms : m < spS.size := by rw [show spS.size = 10 from rfl]; omega
          have hx := spS_at m (by omega) hms
          have HX := Lib.hid hx; clear hx
          cases hq : (spS[m] == s[k]) with
          | true =>
            have hq2 : ((spS[m].toNat : Int) == (s[k].toNat : Int)) = true := by rw [beq_u8]; exact hq
            have HQ := Lib.hid hq; clear hq
            go_wp2
            go_quiet (fail)
            go_wp2
            go_roundw
            case rel =>
              refine ⟨m + 1, m, by omega, by go_num, rfl, Lib.hid ?_, U.below_drewN hbi _⟩
              have h1 := HQ.out; rw [HX.out, ← HC.out, beq_iff_eq] at h1
              simp only [lastHit]; rw [if_pos h1]
            case measure => simp [intOf]; omega
          | false =>
            have hq2 : ((spS[m].toNat : Int) == (s[k].toNat : Int)) = false := by rw [beq_u8]; exact hq
            have HQ := Lib.hid hq; clear hq
            go_wp2
            go_quiet (fail)
            go_wp2
            go_roundw
            case rel =>
              refine ⟨m + 1, z, by omega, by go_num, rfl, Lib.hid ?_, U.below_drewN hbi _⟩
              have h1 := HQ.out; rw [HX.out, ← HC.out, beq_eq_false_iff_ne] at h1
              simp only [lastHit]; rw [if_neg h1]; exact HZ.out
            case measure => simp [intOf]; omega
        · have hm' : m = 9 := by omega
          have HM := Lib.hid hm'; clear hm'
          have hst := Lib.hid (escG_step s k hlt)
          clear hbw hwo
          go_wp2_with fail
          refine (at_any _ (by rw [ByteArray.size_extract]; omega) _).mono ?_
          rintro e w2 ⟨rfl, hb2⟩
          have hbw2 : Below w.heap.size w w2 := U.below_then hbi hb2
          rw [U.drop_data]
          clear hb2 hbi
          cases ho : beg (s.data.toList.drop k) with
          | some x =>
            obtain ⟨n, hn, hat, hxn⟩ := atI_some _ _ ho
            rw [hat]
            have hseq : seq3 s[k] = [92] ++ (dig 9).data.toList := by
              have h := beg_head _ _ ho
              rw [U.u8_at s k hlt] at h
              have : s[k] = 92 := by simpa using h
              rw [this]; rfl
            have HS := Lib.hid hseq; clear hseq
            have HO := Lib.hid ho; clear ho
            have HAT := Lib.hid hat; clear hat
            clear hxn
            go_wp2_with fail
            refine (digits_any _).mono ?_
            rintro e w3 ⟨g, rfl, hb3, hd⟩
            have hcell := hd 9 (by omega)
            have hds : (dig 9).size ≤ 2 := by decide
            have hbw3 := U.below_then hbw2 hb3
            clear hd hb3 hbw2
            obtain ⟨d, hdd⟩ : ∃ d, d = dig 9 := ⟨_, rfl⟩
            rw [← hdd] at hcell hds HS
            clear hdd
            go_wp2
            go_roundw
            case rel => exact ⟨k + 1, acc ++ ⟨#[92]⟩ ++ d, by omega, rfl, by go_num, hbw3, Lib.hid (by rw [← HA.out, hst.out, HO.out, HS.out]; simp), by simp [ByteArray.size_append, show (⟨#[92]⟩ : ByteArray).size = 1 from rfl]; omega⟩
            case measure => simp [intOf]; omega
          | none =>
            rw [atI_none _ ho]
            have HO := Lib.hid ho; clear ho
            cases hsp : isSp c with
            | true =>
              obtain ⟨n, hn, hla, hxn⟩ := lastHit_yes c hsp
              have hz : z = (n : Int) := by rw [HZ.out, HM.out, hla]
              have hseq : seq3 s[k] = [92] ++ (dig n).data.toList := by
                rw [dig_data, hxn, HC.out]; rfl
              have HS := Lib.hid hseq; clear hseq
              subst hz
              rw [HC.out] at hsp
              have HSP := Lib.hid hsp
              clear hsp hla hxn HZ
              go_wp2_with fail
              refine (digits_any _).mono ?_
              rintro e w3 ⟨g, rfl, hb3, hd⟩
              have hcell := hd n (by omega)
              have hds : (dig n).size ≤ 2 := by rw [← len_data, dig_data]; simp [seq3]
              have hbw3 := U.below_then hbw2 hb3
              clear hd hb3 hbw2
              obtain ⟨d, hdd⟩ : ∃ d, d = dig n := ⟨_, rfl⟩
              rw [← hdd] at hcell hds HS
              clear hdd
              go_wp2
              go_roundw
              case rel => exact ⟨k + 1, acc ++ ⟨#[92]⟩ ++ d, by omega, rfl, by go_num, hbw3, Lib.hid (by rw [← HA.out, hst.out, HO.out, HSP.out, HS.out]; simp), by simp [ByteArray.size_append, show (⟨#[92]⟩ : ByteArray).size = 1 from rfl]; omega⟩
              case measure => simp [intOf]; omega
            | false =>
              have hz : z = -1 := by rw [HZ.out, HM.out, lastHit_no c hsp]
              subst hz
              rw [HC.out] at hsp
              have HSP := Lib.hid hsp
              clear hsp HZ
              have h1s : (s.extract k (k + 1)).size ≤ 1 := by rw [ByteArray.size_extract]; omega
              go_wp2

              go_roundw
              case rel => exact ⟨k + 1, acc ++ s.extract k (k + 1), by omega, rfl, by go_num, hbw2, Lib.hid (by rw [← HA.out, hst.out, HO.out, HSP.out, U.append_data, U.one_data s k hlt]; simp), by simp [ByteArray.size_append]; omega⟩
              case measure => simp [intOf]; omega
    · have hsz := hbw.size
      have hkk : k = s.size := by omega
      have HK := Lib.hid hkk; clear hkk
      go_wp2_with fail
      go_ret2
      refine ⟨?_, hbw⟩
      rw [← HA.out, HK.out, List.drop_eq_nil_of_le (by rw [len_data]; omega)]
      simp [escG]

end Go.Proofs.YtnaimienfgpgmaaDoor.Esc

/- The reference's Unescape and Is, and escape.Is, at this translation. -/
set_option linter.unusedVariables false
set_option linter.unusedSimpArgs false
namespace Go.Proofs.YtnaimienfgpgmaaDoor.Esc
open Go.RowKit EscP

theorem spB_zero (n : Nat) (hn : n < 10) (x : UInt8) (h : spB.getD n 0 = x) : (x == 32) = ((n : Int) == 0) := by
  subst h
  match n, hn with
  | 0, _ => rfl
  | 1, _ => rfl
  | 2, _ => rfl
  | 3, _ => rfl
  | 4, _ => rfl
  | 5, _ => rfl
  | 6, _ => rfl
  | 7, _ => rfl
  | 8, _ => rfl
  | 9, _ => rfl
theorem spS_cut (n : Nat) (hn : n < 10) (x : UInt8) (h : spB.getD n 0 = x) : (spS.extract n (n + 1)).data.toList = [x] := by
  rw [U.one_data spS n (by rw [show spS.size = 10 from rfl]; exact hn), spS_at n hn, h]

set_option maxHeartbeats 2000000 in
theorem RUnescape_any (s : ByteArray) (hs : s.size ≤ 35184372088832) (w : World) :
    Calls Tryd.prog 32 #[.string s] w fun e w' => e = .returned (.string ⟨(un s.data.toList).toArray⟩) ∧ Below w.heap.size w w' := by
  go_enter Tryd.func32, Tryd.ntmps32
  go_wp2_with fail
  refine (rbytes_any _).mono ?_
  rintro e w2 ⟨rfl, rfl⟩
  go_wp2_with fail
  go_loopw [3, 5] (fun o i wr => ∃ (k f : Nat) (acc : ByteArray), k ≤ s.size ∧ o = .string acc ∧ i = .int .i64 k ∧ Below w.heap.size w wr ∧ Hid (acc.data.toList ++ unG f (k == 0) (s.data.toList.drop k) = un s.data.toList) ∧ acc.size ≤ k ∧ s.size ≤ k + f) (fun _ i _ => s.size - (intOf i).toNat)
  case atStart =>
    exact ⟨0, s.size, ⟨#[]⟩, by omega, rfl, rfl, Below.refl _ w, Lib.hid (by rw [un, len_data]; rfl), by simp [ByteArray.size], by omega⟩
  case round =>
    obtain ⟨k, f, acc, hk, rfl, rfl, hbw, HA, hal, hf⟩ := hrel
    by_cases hlt : k < s.size
    · obtain ⟨f, rfl⟩ : ∃ g, f = g + 1 := ⟨f - 1, by omega⟩
      have h1s : (s.extract k (k + 1)).size ≤ 1 := by rw [ByteArray.size_extract]; omega
      go_wp2_with fail
      refine (at_any _ (by rw [ByteArray.size_extract]; omega) _).mono ?_
      rintro e w2 ⟨rfl, hb2⟩
      have hbw2 := U.below_then hbw hb2
      clear hb2 hbw
      rw [U.drop_data]
      cases ho : beg (s.data.toList.drop k) with
      | none =>
        rw [atI_none _ ho]
        have hm := Lib.hid (unG_miss s k f (k == 0) hlt (by intro x hx; rw [ho] at hx; cases hx))
        clear ho
        go_wp2
        go_roundw
        case rel => exact ⟨k + 1, f, acc ++ s.extract k (k + 1), by omega, rfl, by go_num, hbw2, Lib.hid (by rw [← HA.out, hm.out, U.append_data, U.one_data s k hlt]; simp), by simp [ByteArray.size_append]; omega, by omega⟩
        case measure => simp [intOf]; omega
      | some x =>
        obtain ⟨n, hn, hat, hxn⟩ := atI_some _ _ ho
        rw [hat]
        have h3 : k + 3 ≤ s.size := by
          have := beg_len _ x ho
          rw [List.length_drop, len_data] at this; omega
        have hz := spB_zero n hn x hxn
        have HXN := Lib.hid hxn
        have HAT := Lib.hid hat
        clear hat hxn
        have hns : (spS.extract n (n + 1)).size ≤ 1 := by rw [ByteArray.size_extract]; omega
        have hn2 : n + 1 ≤ spS.size := by rw [show spS.size = 10 from rfl]; omega
        cases hx : (x == 32) with
        | true =>
          rw [hx] at hz
          have hz2 := hz.symm
          have hn0 : n = 0 := by simpa using hz2
          subst hn0
          clear hz hz2
          by_cases hc : 0 < k ∧ k + 3 < s.size
          · obtain ⟨h0, hc⟩ := hc
            have hm := Lib.hid (unG_hit s k f (k == 0) hlt x ho (by simp; omega))
            have HX := Lib.hid hx; clear hx ho
            have hk0 : ((k : Int) == 0) = false := by simp; omega
            have hk3 : ((k : Int) + 3 == (s.size : Int)) = false := by simp; omega
            go_wp2
            go_roundw
            case rel => exact ⟨k + 3, f, acc ++ spS.extract 0 1, by omega, rfl, by go_num, hbw2, Lib.hid (by rw [← HA.out, hm.out, U.append_data, spS_cut 0 hn x HXN.out]; simp), by simp [ByteArray.size_append]; omega, by omega⟩
            case measure => simp [intOf]; omega
          · have hm := Lib.hid (unG_miss s k f (k == 0) hlt (by
              intro y hy; rw [ho] at hy; cases hy
              rw [bne, hx]; simp; omega))
            have HX := Lib.hid hx; clear hx ho
            by_cases h0 : k = 0
            · subst h0
              clear hc
              go_wp2
              go_roundw
              case rel => exact ⟨0 + 1, f, acc ++ s.extract 0 (0 + 1), by omega, rfl, by go_num, hbw2, Lib.hid (by rw [← HA.out, hm.out, U.append_data, U.one_data s 0 hlt]; simp), by simp [ByteArray.size_append]; omega, by omega⟩
              case measure => simp [intOf]; omega
            · have hk0 : ((k : Int) == 0) = false := by simp; omega
              have hk3 : ((k : Int) + 3 == (s.size : Int)) = true := by simp; omega
              clear hc h0
              go_wp2
              go_roundw
              case rel => exact ⟨k + 1, f, acc ++ s.extract k (k + 1), by omega, rfl, by go_num, hbw2, Lib.hid (by rw [← HA.out, hm.out, U.append_data, U.one_data s k hlt]; simp), by simp [ByteArray.size_append]; omega, by omega⟩
              case measure => simp [intOf]; omega
        | false =>
          rw [hx] at hz
          have hz2 := hz.symm
          clear hz
          have hm := Lib.hid (unG_hit s k f (k == 0) hlt x ho (by rw [bne, hx]; rfl))
          have HX := Lib.hid hx; clear hx ho
          go_wp2
          go_roundw
          case rel => exact ⟨k + 3, f, acc ++ spS.extract n (n + 1), by omega, rfl, by go_num, hbw2, Lib.hid (by rw [← HA.out, hm.out, U.append_data, spS_cut n hn x HXN.out]; simp), by simp [ByteArray.size_append]; omega, by omega⟩
          case measure => simp [intOf]; omega
    · have hkk : k = s.size := by omega
      have HK := Lib.hid hkk; clear hkk
      go_wp2
      go_ret
      refine ⟨?_, hbw⟩
      rw [← HA.out, HK.out, List.drop_eq_nil_of_le (by rw [len_data]; omega)]
      cases f <;> simp [unG]


/-- May the text be in an address? -/
def isOk (l : List UInt8) : Bool := !(l.any isSp) && (!l.isEmpty && (!((seq3 32).isPrefixOf l) && !((seq3 32).isSuffixOf l)))

theorem any_step (s : ByteArray) (k : Nat) (h : k < s.size) : (s.data.toList.drop k).any isSp = (isSp s[k] || (s.data.toList.drop (k + 1)).any isSp) := by
  rw [U.u8_at s k h]; rfl
theorem data_isEmpty (s : ByteArray) (h : 0 < s.size) : s.data.toList.isEmpty = false := by rw [← Lib.toList_data]; exact U.isEmpty_false s h

theorem atI_zero (l : List UInt8) : (atI l == 0) = (seq3 32).isPrefixOf l := by
  have h0 := begF_step l 32 0 (by decide) rfl
  cases hq : (seq3 32).isPrefixOf l with
  | true =>
    rw [hq] at h0; simp only [if_true] at h0
    have : beg l = some 32 := h0
    unfold atI; rw [this]; rfl
  | false =>
    cases ho : beg l with
    | none => rw [atI_none _ ho]; rfl
    | some x =>
      obtain ⟨n, hn, hat, hxn⟩ := atI_some _ _ ho
      rw [hat, ← spB_zero n hn x hxn]
      rw [beq_eq_false_iff_ne]
      intro hx
      subst hx
      have := List.find?_some ho
      rw [hq] at this; cases this
theorem suffix_drop (s : ByteArray) (h : 3 ≤ s.size) : (seq3 32).isPrefixOf (s.data.toList.drop (s.size - 3)) = (seq3 32).isSuffixOf s.data.toList := by
  rw [Bool.eq_iff_iff, List.isPrefixOf_iff_prefix, List.isSuffixOf_iff_suffix]
  have hl : (s.data.toList.drop (s.size - 3)).length = 3 := by rw [List.length_drop, len_data]; omega
  constructor
  · intro hp
    have := hp.eq_of_length (by rw [hl]; rfl)
    rw [this]; exact List.drop_suffix _ _
  · intro hp
    have := List.suffix_iff_eq_drop.1 hp
    rw [len_data, seq3_len] at this
    rw [← this]
    exact List.prefix_rfl
theorem short_no (l : List UInt8) (h : l.length < 3) : (seq3 32).isPrefixOf l = false ∧ (seq3 32).isSuffixOf l = false := by
  constructor
  · rw [Bool.eq_false_iff]; intro hp
    have := (List.isPrefixOf_iff_prefix.1 hp).length_le
    rw [seq3_len] at this; omega
  · rw [Bool.eq_false_iff]; intro hp
    have := (List.isSuffixOf_iff_suffix.1 hp).length_le
    rw [seq3_len] at this; omega

end Go.Proofs.YtnaimienfgpgmaaDoor.Esc

/- Layer 2's functions as the printed texts want them: what each returns, as a function that may fail past 2^45 bytes. -/
set_option linter.unusedVariables false
namespace Go.Proofs.YtnaimienfgpgmaaDoor.F
open Go.RowKit EscP
/-- A bound on lengths. -/
def lim : Nat := 35184372088832
def escape_Escape.f (a0 : ByteArray) : Option (ByteArray × Int) :=
  if a0.size ≤ lim then some (if bad a0.data.toList then (ByteArray.empty, 20) else (⟨(escG a0.data.toList).toArray⟩, 0)) else none
theorem escape_Escape.calls (a0 : ByteArray) (r1 : ByteArray) (r2 : Int) (w : World) (h : escape_Escape.f a0 = some (r1, r2)) :
    Calls Tryd.prog 27 #[.string a0] w fun e w' => e = .returned (.tuple #[.string r1, .int .i64 r2]) ∧ Below w.heap.size w w' := by
  unfold escape_Escape.f at h
  by_cases hc : a0.size ≤ lim
  · rw [if_pos hc] at h
    cases hb : bad a0.data.toList with
    | true =>
      rw [hb] at h; simp only [if_true] at h
      obtain ⟨rfl, rfl⟩ := Prod.mk.inj (Option.some.inj h)
      exact Esc.Escape_bad a0 hc hb w
    | false =>
      rw [hb] at h; simp only [Bool.false_eq_true, if_false] at h
      obtain ⟨rfl, rfl⟩ := Prod.mk.inj (Option.some.inj h)
      exact Esc.Escape_good a0 hc hb w
  · rw [if_neg hc] at h; cases h
def wharfref02_Escape.f (a0 : ByteArray) : Option (ByteArray × Int) :=
  if a0.size ≤ lim then some (if bad a0.data.toList then (ByteArray.empty, 20) else (⟨(escG a0.data.toList).toArray⟩, 0)) else none
theorem wharfref02_Escape.calls (a0 : ByteArray) (r1 : ByteArray) (r2 : Int) (w : World) (h : wharfref02_Escape.f a0 = some (r1, r2)) :
    Calls Tryd.prog 29 #[.string a0] w fun e w' => e = .returned (.tuple #[.string r1, .int .i64 r2]) ∧ Below w.heap.size w w' := by
  unfold wharfref02_Escape.f at h
  by_cases hc : a0.size ≤ lim
  · rw [if_pos hc] at h
    cases hb : bad a0.data.toList with
    | true =>
      rw [hb] at h; simp only [if_true] at h
      obtain ⟨rfl, rfl⟩ := Prod.mk.inj (Option.some.inj h)
      exact Esc.REscape_bad a0 hc hb w
    | false =>
      rw [hb] at h; simp only [Bool.false_eq_true, if_false] at h
      obtain ⟨rfl, rfl⟩ := Prod.mk.inj (Option.some.inj h)
      exact Esc.REscape_good a0 hc hb w
  · rw [if_neg hc] at h; cases h
def escape_Unescape.f (a0 : ByteArray) : Option ByteArray := if a0.size ≤ lim then some ⟨(un a0.data.toList).toArray⟩ else none
theorem escape_Unescape.calls (a0 : ByteArray) (r : ByteArray) (w : World) (h : escape_Unescape.f a0 = some r) :
    Calls Tryd.prog 31 #[.string a0] w fun e w' => e = .returned (.string r) ∧ Below w.heap.size w w' := by
  unfold escape_Unescape.f at h
  by_cases hc : a0.size ≤ lim
  · rw [if_pos hc] at h
    obtain rfl := Option.some.inj h
    exact Esc.Unescape_any a0 hc w
  · rw [if_neg hc] at h; cases h
def wharfref02_Unescape.f (a0 : ByteArray) : Option ByteArray := if a0.size ≤ lim then some ⟨(un a0.data.toList).toArray⟩ else none
theorem wharfref02_Unescape.calls (a0 : ByteArray) (r : ByteArray) (w : World) (h : wharfref02_Unescape.f a0 = some r) :
    Calls Tryd.prog 32 #[.string a0] w fun e w' => e = .returned (.string r) ∧ Below w.heap.size w w' := by
  unfold wharfref02_Unescape.f at h
  by_cases hc : a0.size ≤ lim
  · rw [if_pos hc] at h
    obtain rfl := Option.some.inj h
    exact Esc.RUnescape_any a0 hc w
  · rw [if_neg hc] at h; cases h
def escape_Is.f (a0 : ByteArray) : Option Bool := if a0.size ≤ lim then some (Esc.isOk a0.data.toList) else none
def wharfref02_Is.f (a0 : ByteArray) : Option Bool := if a0.size ≤ lim then some (Esc.isOk a0.data.toList) else none
end Go.Proofs.YtnaimienfgpgmaaDoor.F

/- wharfref01 at this translation: Fold. -/
set_option linter.unusedVariables false
set_option linter.unusedSimpArgs false
namespace Go.Proofs.YtnaimienfgpgmaaDoor.Gly
open Go.RowKit GlyP

theorem ref_no (c : UInt8) (h : (c.toNat : Int) < 65 ∨ (90 : Int) < (c.toNat : Int)) : low c = c := by
  unfold low
  rw [if_neg]
  rw [UInt8.le_iff_toNat_le, UInt8.le_iff_toNat_le]
  simp; omega
theorem ref_yes (c : UInt8) (h1 : (65 : Int) ≤ (c.toNat : Int)) (h2 : (c.toNat : Int) ≤ 90) : (((low c).toNat : Nat) : Int) = (c.toNat : Int) + 32 := by
  unfold low
  rw [if_pos]
  · rw [UInt8.toNat_add]; simp; omega
  · rw [UInt8.le_iff_toNat_le, UInt8.le_iff_toNat_le]
    simp; omega

set_option maxHeartbeats 1000000 in
theorem RFold_any (s : ByteArray) (hs : s.size ≤ 140737488355328) (w : World) :
    Calls Tryd.prog 26 #[.string s] w fun e w' => e = .returned (.string ⟨(s.data.toList.map low).toArray⟩) ∧ Below w.heap.size w w' := by
  have hcv := fun (w : World) => Lib.run_convert_string_bytes (P := Tryd.prog) w 9 49 5 s Tryd.underlying9 Tryd.underlying49 Tryd.underlying5
  go_enter Tryd.func26, Tryd.ntmps26
  go_wp2
  clear hcv
  go_loopw [4] (fun i wr => ∃ k : Nat, k ≤ s.size ∧ i = .int .i64 k ∧ Hid (U.BytesAt w.heap.size ((s.data.toList.take k).map low ++ s.data.toList.drop k) wr) ∧ Below w.heap.size w wr) (fun i _ => s.size - (intOf i).toNat)
  case atStart => exact ⟨0, by omega, rfl, Lib.hid (U.BytesAt.new w s), U.below_bytesWorld w _ s⟩
  case round =>
    obtain ⟨k, hk, rfl, HB, hbw⟩ := hrel
    have hl : ((s.data.toList.take k).map low ++ s.data.toList.drop k).length = s.size := by
      rw [List.length_append, List.length_map, List.length_take, List.length_drop, U.len_data]; omega
    by_cases hlt : k < s.size
    · have hat := HB.out k (by omega)
      have hg : ((s.data.toList.take k).map low ++ s.data.toList.drop k)[k]'(by omega) = s[k] := by
        rw [List.getElem_append_right (by rw [List.length_map, List.length_take, U.len_data]; omega)]
        simp [U.len_data, Nat.min_eq_left hk]
        rfl
      rw [hg] at hat
      obtain ⟨hc, hf⟩ := hat
      have hnext : (s.data.toList.take (k + 1)).map low ++ s.data.toList.drop (k + 1) = ((s.data.toList.take k).map low ++ s.data.toList.drop k).set k (low s[k]) := by
        rw [List.set_append_right _ _ (by rw [List.length_map, List.length_take, U.len_data]; omega), U.u8_at s k hlt, List.length_map, List.length_take, U.len_data, Nat.min_eq_left hk, Nat.sub_self, List.set_cons_zero,
          List.take_succ_eq_append_getElem (by rw [U.len_data]; exact hlt), List.map_append, List.append_assoc]
        rfl
      have HN := Lib.hid hnext
      have hsame : low s[k] = s[k] → ((s.data.toList.take k).map low ++ s.data.toList.drop k).set k (low s[k]) = (s.data.toList.take k).map low ++ s.data.toList.drop k := by
        intro h; rw [h, ← hg, List.set_getElem_self]
      have HG := Lib.hid hsame
      clear hsame
      clear hg hl hnext
      obtain ⟨x, hx⟩ : ∃ x : Int, x = (s[k].toNat : Int) := ⟨_, rfl⟩
      by_cases h1 : x < 65
      · have HY := Lib.hid (ref_no s[k] (.inl (hx ▸ h1)))
        rw [hx] at h1
        clear hx
        go_wp2
        go_roundw
        case rel => exact ⟨k + 1, by omega, by go_num, Lib.hid (by rw [HN.out, HG.out HY.out]; exact HB.out), hbw⟩
        case measure => simp [intOf]; omega
      · by_cases h2 : 90 < x
        · have HY := Lib.hid (ref_no s[k] (.inr (hx ▸ h2)))
          rw [hx] at h1 h2
          clear hx
          go_wp2
          go_roundw
          case rel => exact ⟨k + 1, by omega, by go_num, Lib.hid (by rw [HN.out, HG.out HY.out]; exact HB.out), hbw⟩
          case measure => simp [intOf]; omega
        · have HY := Lib.hid (ref_yes s[k] (by omega) (by omega))
          rw [hx] at h1 h2
          clear hx
          go_wp2
          go_roundw
          case rel => exact ⟨k + 1, by omega, by go_num, Lib.hid (by rw [HN.out]; exact HB.out.set k _ _ (by rw [HY.out])), hbw.setCell (p := ⟨w.heap.size, k, none⟩) (Nat.le_refl _) _⟩
          case measure => simp [intOf]; omega
    · have hkk : k = s.size := by omega
      have hB := HB.out
      rw [hkk, ← U.len_data, List.take_length, List.drop_length, List.append_nil] at hB
      have hcv := hB.text (P := Tryd.prog) 49 9 5 (grownCap w s.size 0 5) Tryd.underlying49 Tryd.underlying5 Tryd.underlying9
      rw [List.length_map, U.len_data] at hcv
      clear hB hl hkk HB
      go_wp2
      go_ret
      exact ⟨rfl, hbw⟩

end Go.Proofs.YtnaimienfgpgmaaDoor.Gly

/- wharfref01.Fold as the printed texts want it. -/
set_option linter.unusedVariables false
namespace Go.Proofs.YtnaimienfgpgmaaDoor.F
open Go.RowKit GlyP
/-- A bound on lengths. -/
def rlim : Nat := 35184372088832
def wharfref01_Fold.f (a0 : ByteArray) : Option ByteArray := if a0.size ≤ rlim then some ⟨(a0.data.toList.map Gly.low).toArray⟩ else none
theorem wharfref01_Fold.calls (a0 : ByteArray) (r : ByteArray) (w : World) (h : wharfref01_Fold.f a0 = some r) :
    Calls Tryd.prog 26 #[.string a0] w fun e w' => e = .returned (.string r) ∧ Below w.heap.size w w' := by
  unfold wharfref01_Fold.f at h
  by_cases hc : a0.size ≤ rlim
  · rw [if_pos hc] at h
    obtain rfl := Option.some.inj h
    exact Gly.RFold_any a0 (by unfold rlim at hc; omega) w
  · rw [if_neg hc] at h; cases h
end Go.Proofs.YtnaimienfgpgmaaDoor.F

/- What functions of this translation return, each a function of Lean and its contract; written by a program of the session. -/
namespace Go.Proofs.YtnaimienfgpgmaaDoor.Ra
open Go.RowKit Go.Proofs.YtnaimienfgpgmaaDoor.F Go.Proofs.YtnaimienfgpgmaaDoorW.PrintWords Go.Proofs.YtnaimienfgpgmaaDoorW.PrintLast Go.Proofs.YtnaimienfgpgmaaDoorW.PrintMore
attribute [local go_sem] max2_int min2_int max_two min_two max_three min_three max_four min_four   -- for this text's walks alone
set_option linter.unusedVariables false
set_option linter.unusedSimpArgs false



def errW : Option Int → Value
  | none => .nilIface
  | some c => .iface 0 (.int .i64 c)
theorem errW_none : errW none = .nilIface := rfl
theorem errW_some (c : Int) : errW (some c) = .iface 0 (.int .i64 c) := rfl

theorem info3 : (Tryd.prog.info? 3).map (fun i => (i.zero, i.size, i.bytes)) = some (some (.int .i64 0), 1, 8) := by kernel_rfl
theorem info5 : (Tryd.prog.info? 5).map (fun i => (i.zero, i.size, i.bytes)) = some (some (.int .u8 0), 1, 1) := by kernel_rfl
-- the values' own types

end Go.Proofs.YtnaimienfgpgmaaDoor.Ra

/- What functions of this translation return, each a function of Lean and its contract; written by a program of the session. -/
namespace Go.Proofs.YtnaimienfgpgmaaDoor.Ra
open Go.RowKit Go.Proofs.YtnaimienfgpgmaaDoor.F Go.Proofs.YtnaimienfgpgmaaDoorW.PrintWords Go.Proofs.YtnaimienfgpgmaaDoorW.PrintLast Go.Proofs.YtnaimienfgpgmaaDoorW.PrintMore
attribute [local go_sem] max2_int min2_int max_two min_two max_three min_three max_four min_four   -- for this text's walks alone
set_option linter.unusedVariables false
set_option linter.unusedSimpArgs false

/-! ### wharfref01_Is: function 89 -/
def wharfref01_Is.f (a0 : Int) : Option (Bool) := if a0 ≥ 0 then (if a0 ≤ 1114111 then (if a0 < 55296 then (some true) else (some (decide (a0 > 57343)))) else (some false)) else (some false)
set_option maxHeartbeats 8000000 in
set_option maxRecDepth 100000 in
theorem wharfref01_Is.calls (a0 : Int) (r : Bool) (w : World) (h : wharfref01_Is.f a0 = some r) :
    Calls Tryd.prog 89 #[.int .i64 a0] w fun e w' => e = .returned (.bool r) ∧ Drawn0 w w' := by
  have H : (if a0 ≥ 0 then (if a0 ≤ 1114111 then (if a0 < 55296 then (some true) else (some (decide (a0 > 57343)))) else (some false)) else (some false)) = some r := h
  clear h
  by_cases c2 : a0 ≥ 0
  · rw [if_pos c2] at H
    have c2b0 : decide (0 ≤ a0) = true := decide_eq_true c2
    clear c2
    by_cases c3 : a0 ≤ 1114111
    · rw [if_pos c3] at H
      have c3b0 : decide (a0 ≤ 1114111) = true := decide_eq_true c3
      clear c3
      by_cases c4 : a0 < 55296
      · rw [if_pos c4] at H
        have c4b0 : decide (a0 < 55296) = true := decide_eq_true c4
        clear c4
        obtain rfl := Option.some.inj H
        go_enter Tryd.func89, Tryd.ntmps89
        go_wp2
        go_ret
        exact ⟨by first | rfl | (simp; done) | (simp [*]; done), by repeat (first | exact Drawn0.refl _ | apply Drawn0.step)⟩
      · rw [if_neg c4] at H
        have c4b0 : decide (a0 < 55296) = false := decide_eq_false c4
        clear c4
        obtain rfl := Option.some.inj H
        go_enter Tryd.func89, Tryd.ntmps89
        go_wp2
        go_ret
        exact ⟨by first | rfl | (simp; done) | (simp [*]; done), by repeat (first | exact Drawn0.refl _ | apply Drawn0.step)⟩
    · rw [if_neg c3] at H
      have c3b0 : decide (a0 ≤ 1114111) = false := decide_eq_false c3
      clear c3
      obtain rfl := Option.some.inj H
      go_enter Tryd.func89, Tryd.ntmps89
      go_wp2
      go_ret
      exact ⟨by first | rfl | (simp; done) | (simp [*]; done), by repeat (first | exact Drawn0.refl _ | apply Drawn0.step)⟩
  · rw [if_neg c2] at H
    have c2b0 : decide (0 ≤ a0) = false := decide_eq_false c2
    clear c2
    obtain rfl := Option.some.inj H
    go_enter Tryd.func89, Tryd.ntmps89
    go_wp2
    go_ret
    exact ⟨by first | rfl | (simp; done) | (simp [*]; done), by repeat (first | exact Drawn0.refl _ | apply Drawn0.step)⟩

/-! ### wharfref01_Put: function 86 -/
def wharfref01_Put.f (a0 : Int) : Option (ByteArray × Int) := (wharfref01_Is.f a0).bind fun t101 => (if t101 = true then (if a0 < 128 then (some (strOfNums (([(a0) % 256] : List Int)), 0)) else (if a0 < 2048 then (some (strOfNums (([(wrap64 (192 + (wrap64 (Int.tdiv a0 64)))) % 256, (wrap64 (128 + (Int.tmod a0 64))) % 256] : List Int)), 0)) else (if a0 < 65536 then (some (strOfNums (([(wrap64 (224 + (wrap64 (Int.tdiv a0 4096)))) % 256, (wrap64 (128 + (Int.tmod (wrap64 (Int.tdiv a0 64)) 64))) % 256, (wrap64 (128 + (Int.tmod a0 64))) % 256] : List Int)), 0)) else (some (strOfNums (([(wrap64 (240 + (wrap64 (Int.tdiv a0 262144)))) % 256, (wrap64 (128 + (Int.tmod (wrap64 (Int.tdiv a0 4096)) 64))) % 256, (wrap64 (128 + (Int.tmod (wrap64 (Int.tdiv a0 64)) 64))) % 256, (wrap64 (128 + (Int.tmod a0 64))) % 256] : List Int)), 0))))) else (some ((⟨#[]⟩ : ByteArray), 10)))
set_option maxHeartbeats 8000000 in
set_option maxRecDepth 100000 in
theorem wharfref01_Put.calls (a0 : Int) (r1 : ByteArray) (r2 : Int) (w : World) (h : wharfref01_Put.f a0 = some (r1, r2)) :
    Calls Tryd.prog 86 #[.int .i64 a0] w fun e w' => e = .returned (.tuple #[.string r1, .int .i64 r2]) ∧ Below w.heap.size w w' := by
  have HB := Aside0.mk (Below.refl w.heap.size w)
  have H : ((wharfref01_Is.f a0).bind fun t101 => (if t101 = true then (if a0 < 128 then (some (strOfNums (([(a0) % 256] : List Int)), 0)) else (if a0 < 2048 then (some (strOfNums (([(wrap64 (192 + (wrap64 (Int.tdiv a0 64)))) % 256, (wrap64 (128 + (Int.tmod a0 64))) % 256] : List Int)), 0)) else (if a0 < 65536 then (some (strOfNums (([(wrap64 (224 + (wrap64 (Int.tdiv a0 4096)))) % 256, (wrap64 (128 + (Int.tmod (wrap64 (Int.tdiv a0 64)) 64))) % 256, (wrap64 (128 + (Int.tmod a0 64))) % 256] : List Int)), 0)) else (some (strOfNums (([(wrap64 (240 + (wrap64 (Int.tdiv a0 262144)))) % 256, (wrap64 (128 + (Int.tmod (wrap64 (Int.tdiv a0 4096)) 64))) % 256, (wrap64 (128 + (Int.tmod (wrap64 (Int.tdiv a0 64)) 64))) % 256, (wrap64 (128 + (Int.tmod a0 64))) % 256] : List Int)), 0))))) else (some ((⟨#[]⟩ : ByteArray), 10)))) = some (r1, r2) := h
  clear h
  replace H := Option.bind_eq_some_iff.mp H
  obtain ⟨t101, A20, H⟩ := H
  replace H : (if t101 = true then (if a0 < 128 then (some (strOfNums (([(a0) % 256] : List Int)), 0)) else (if a0 < 2048 then (some (strOfNums (([(wrap64 (192 + (wrap64 (Int.tdiv a0 64)))) % 256, (wrap64 (128 + (Int.tmod a0 64))) % 256] : List Int)), 0)) else (if a0 < 65536 then (some (strOfNums (([(wrap64 (224 + (wrap64 (Int.tdiv a0 4096)))) % 256, (wrap64 (128 + (Int.tmod (wrap64 (Int.tdiv a0 64)) 64))) % 256, (wrap64 (128 + (Int.tmod a0 64))) % 256] : List Int)), 0)) else (some (strOfNums (([(wrap64 (240 + (wrap64 (Int.tdiv a0 262144)))) % 256, (wrap64 (128 + (Int.tmod (wrap64 (Int.tdiv a0 4096)) 64))) % 256, (wrap64 (128 + (Int.tmod (wrap64 (Int.tdiv a0 64)) 64))) % 256, (wrap64 (128 + (Int.tmod a0 64))) % 256] : List Int)), 0))))) else (some ((⟨#[]⟩ : ByteArray), 10))) = some (r1, r2) := H
  have A2 := Aside0.mk A20
  clear A20
  by_cases c3 : t101 = true
  · subst c3
    have H1 : (if a0 < 128 then (some (strOfNums (([(a0) % 256] : List Int)), 0)) else (if a0 < 2048 then (some (strOfNums (([(wrap64 (192 + (wrap64 (Int.tdiv a0 64)))) % 256, (wrap64 (128 + (Int.tmod a0 64))) % 256] : List Int)), 0)) else (if a0 < 65536 then (some (strOfNums (([(wrap64 (224 + (wrap64 (Int.tdiv a0 4096)))) % 256, (wrap64 (128 + (Int.tmod (wrap64 (Int.tdiv a0 64)) 64))) % 256, (wrap64 (128 + (Int.tmod a0 64))) % 256] : List Int)), 0)) else (some (strOfNums (([(wrap64 (240 + (wrap64 (Int.tdiv a0 262144)))) % 256, (wrap64 (128 + (Int.tmod (wrap64 (Int.tdiv a0 4096)) 64))) % 256, (wrap64 (128 + (Int.tmod (wrap64 (Int.tdiv a0 64)) 64))) % 256, (wrap64 (128 + (Int.tmod a0 64))) % 256] : List Int)), 0))))) = some (r1, r2) := by rw [if_pos rfl] at H; exact H
    clear H
    have H := H1
    clear H1
    by_cases c4 : a0 < 128
    · rw [if_pos c4] at H
      have c4b0 : decide (a0 < 128) = true := decide_eq_true c4
      clear c4
      obtain ⟨y102, hy102⟩ : ∃ y_ : List Int, y_ = (([(a0) % 256] : List Int)) := ⟨_, rfl⟩
      replace H : (some (strOfNums y102, 0)) = some (r1, r2) := by first | (rw [hy102]; with_reducible exact H) | (have H2_ := (Option.bind_some _ _).symm.trans H; rw [hy102]; with_reducible exact H2_) | (have H2_ := (Option.bind_some _ _).symm.trans H; with_reducible exact H2_) | with_reducible exact H | (rw [hy102]; exact H) | exact H
      have Ny102 := Aside0.mk hy102
      clear hy102
      simp only [Option.some.injEq, Prod.mk.injEq] at H
      obtain ⟨rfl, rfl⟩ := H
      go_enter Tryd.func86, Tryd.ntmps86
      go_wp2_with (first | ((with_reducible refine gate_callee (f := 89) rfl ?_); refine goesL_ (some 6) rfl rfl Tryd.func89 (by kernel_rfl) rfl #[.int .i64 a0] rfl (by (try simp only [List.map_toArray, List.map_cons, List.map_nil]); first | done | rfl | (simp only [List.length_drop, List.length_take]; rfl)) ?_; (with_reducible refine (wharfref01_Is.calls a0 true _ A2.out).mono ?_); rintro e w' ⟨rfl, ⟨nd, rfl⟩⟩; refine ⟨_, rfl, ?_⟩) | ((with_reducible refine gate_dst (N := 32) rfl ?_); refine Kd.R_lit (Kd.int .u8) _ 5 ?hg (N := 32) ?hd (xs := ([(a0) % 256] : List Int)) (inner := [.int .u8 ((a0) % 256)]) (ok := fun _ => True) (okp := fun _ => True) ?hr ?hp (fun _ hk => hk) trivial (Below.refl _ _) (Nat.le_refl _) (by simp) ?_; (case hd => rfl); (case hg => rfl); (case hr => first | (go_simp; done) | (go_simp; rfl)); (case hp => exact (Reps.one (show Kd.M (Kd.int .u8) _ _ _ ((a0) % 256) [.int .u8 ((a0) % 256)] from rfl) (Reps.none _ _))); intro v103 w5 ho6 hb hg_ hnew_; clear hg_ hnew_; (first | rw [← Ny102.out] at ho6 | (simp only [Int.reduceToNat] at ho6; rw [← Ny102.out] at ho6)); have n0_ := Aside0.mk (Kd.R_lower ho6 (below_size (by repeat (first | (with_reducible first | exact HB.out | apply below_alloc | apply pw_below_drewN | apply below_drew1) | exact HB.out)))); have n1_ := Aside0.mk (below_step (by repeat (first | (with_reducible first | exact HB.out | apply below_alloc | apply pw_below_drewN | apply below_drew1) | exact HB.out)) hb); clear HB; have HO104 := n0_; have HB := n1_; clear n0_ n1_; clear hb ho6; have hcv7 := own_string (P := Tryd.prog) Tryd.underlying49 Tryd.underlying5 Tryd.underlying9 (Kd.own_of_R HO104.out)))
      go_ret2
      exact ⟨by first | rfl | (simp [errW_none, errW_some] <;> rfl) | (simp [*, errW_none, errW_some] <;> rfl), by repeat (first | (with_reducible first | exact HB.out | apply below_alloc | apply pw_below_drewN | apply below_drew1) | exact HB.out)⟩
    · rw [if_neg c4] at H
      have c4b0 : decide (a0 < 128) = false := decide_eq_false c4
      clear c4
      by_cases c8 : a0 < 2048
      · rw [if_pos c8] at H
        have c8b0 : decide (a0 < 2048) = true := decide_eq_true c8
        clear c8
        obtain ⟨y105, hy105⟩ : ∃ y_ : List Int, y_ = (([(wrap64 (192 + (wrap64 (Int.tdiv a0 64)))) % 256, (wrap64 (128 + (Int.tmod a0 64))) % 256] : List Int)) := ⟨_, rfl⟩
        replace H : (some (strOfNums y105, 0)) = some (r1, r2) := by first | (rw [hy105]; with_reducible exact H) | (have H2_ := (Option.bind_some _ _).symm.trans H; rw [hy105]; with_reducible exact H2_) | (have H2_ := (Option.bind_some _ _).symm.trans H; with_reducible exact H2_) | with_reducible exact H | (rw [hy105]; exact H) | exact H
        have Ny105 := Aside0.mk hy105
        clear hy105
        simp only [Option.some.injEq, Prod.mk.injEq] at H
        obtain ⟨rfl, rfl⟩ := H
        go_enter Tryd.func86, Tryd.ntmps86
        go_wp2_with (first | ((with_reducible refine gate_callee (f := 89) rfl ?_); refine goesL_ (some 6) rfl rfl Tryd.func89 (by kernel_rfl) rfl #[.int .i64 a0] rfl (by (try simp only [List.map_toArray, List.map_cons, List.map_nil]); first | done | rfl | (simp only [List.length_drop, List.length_take]; rfl)) ?_; (with_reducible refine (wharfref01_Is.calls a0 true _ A2.out).mono ?_); rintro e w' ⟨rfl, ⟨nd, rfl⟩⟩; refine ⟨_, rfl, ?_⟩) | ((with_reducible refine gate_dst (N := 44) rfl ?_); refine Kd.R_lit (Kd.int .u8) _ 5 ?hg (N := 44) ?hd (xs := ([(wrap64 (192 + (wrap64 (Int.tdiv a0 64)))) % 256, (wrap64 (128 + (Int.tmod a0 64))) % 256] : List Int)) (inner := [.int .u8 ((wrap64 (192 + (wrap64 (Int.tdiv a0 64)))) % 256), .int .u8 ((wrap64 (128 + (Int.tmod a0 64))) % 256)]) (ok := fun _ => True) (okp := fun _ => True) ?hr ?hp (fun _ hk => hk) trivial (Below.refl _ _) (Nat.le_refl _) (by simp) ?_; (case hd => rfl); (case hg => rfl); (case hr => first | (go_simp; done) | (go_simp; rfl)); (case hp => exact (Reps.one (show Kd.M (Kd.int .u8) _ _ _ ((wrap64 (192 + (wrap64 (Int.tdiv a0 64)))) % 256) [.int .u8 ((wrap64 (192 + (wrap64 (Int.tdiv a0 64)))) % 256)] from rfl) (Reps.one (show Kd.M (Kd.int .u8) _ _ _ ((wrap64 (128 + (Int.tmod a0 64))) % 256) [.int .u8 ((wrap64 (128 + (Int.tmod a0 64))) % 256)] from rfl) (Reps.none _ _)))); intro v106 w9 ho10 hb hg_ hnew_; clear hg_ hnew_; (first | rw [← Ny105.out] at ho10 | (simp only [Int.reduceToNat] at ho10; rw [← Ny105.out] at ho10)); have n0_ := Aside0.mk (Kd.R_lower ho10 (below_size (by repeat (first | (with_reducible first | exact HB.out | apply below_alloc | apply pw_below_drewN | apply below_drew1) | exact HB.out)))); have n1_ := Aside0.mk (below_step (by repeat (first | (with_reducible first | exact HB.out | apply below_alloc | apply pw_below_drewN | apply below_drew1) | exact HB.out)) hb); clear HB; have HO107 := n0_; have HB := n1_; clear n0_ n1_; clear hb ho10; have hcv11 := own_string (P := Tryd.prog) Tryd.underlying49 Tryd.underlying5 Tryd.underlying9 (Kd.own_of_R HO107.out)))
        go_ret2
        exact ⟨by first | rfl | (simp [errW_none, errW_some] <;> rfl) | (simp [*, errW_none, errW_some] <;> rfl), by repeat (first | (with_reducible first | exact HB.out | apply below_alloc | apply pw_below_drewN | apply below_drew1) | exact HB.out)⟩
      · rw [if_neg c8] at H
        have c8b0 : decide (a0 < 2048) = false := decide_eq_false c8
        clear c8
        by_cases c12 : a0 < 65536
        · rw [if_pos c12] at H
          have c12b0 : decide (a0 < 65536) = true := decide_eq_true c12
          clear c12
          obtain ⟨y108, hy108⟩ : ∃ y_ : List Int, y_ = (([(wrap64 (224 + (wrap64 (Int.tdiv a0 4096)))) % 256, (wrap64 (128 + (Int.tmod (wrap64 (Int.tdiv a0 64)) 64))) % 256, (wrap64 (128 + (Int.tmod a0 64))) % 256] : List Int)) := ⟨_, rfl⟩
          replace H : (some (strOfNums y108, 0)) = some (r1, r2) := by first | (rw [hy108]; with_reducible exact H) | (have H2_ := (Option.bind_some _ _).symm.trans H; rw [hy108]; with_reducible exact H2_) | (have H2_ := (Option.bind_some _ _).symm.trans H; with_reducible exact H2_) | with_reducible exact H | (rw [hy108]; exact H) | exact H
          have Ny108 := Aside0.mk hy108
          clear hy108
          simp only [Option.some.injEq, Prod.mk.injEq] at H
          obtain ⟨rfl, rfl⟩ := H
          go_enter Tryd.func86, Tryd.ntmps86
          go_wp2_with (first | ((with_reducible refine gate_callee (f := 89) rfl ?_); refine goesL_ (some 6) rfl rfl Tryd.func89 (by kernel_rfl) rfl #[.int .i64 a0] rfl (by (try simp only [List.map_toArray, List.map_cons, List.map_nil]); first | done | rfl | (simp only [List.length_drop, List.length_take]; rfl)) ?_; (with_reducible refine (wharfref01_Is.calls a0 true _ A2.out).mono ?_); rintro e w' ⟨rfl, ⟨nd, rfl⟩⟩; refine ⟨_, rfl, ?_⟩) | ((with_reducible refine gate_dst (N := 61) rfl ?_); refine Kd.R_lit (Kd.int .u8) _ 5 ?hg (N := 61) ?hd (xs := ([(wrap64 (224 + (wrap64 (Int.tdiv a0 4096)))) % 256, (wrap64 (128 + (Int.tmod (wrap64 (Int.tdiv a0 64)) 64))) % 256, (wrap64 (128 + (Int.tmod a0 64))) % 256] : List Int)) (inner := [.int .u8 ((wrap64 (224 + (wrap64 (Int.tdiv a0 4096)))) % 256), .int .u8 ((wrap64 (128 + (Int.tmod (wrap64 (Int.tdiv a0 64)) 64))) % 256), .int .u8 ((wrap64 (128 + (Int.tmod a0 64))) % 256)]) (ok := fun _ => True) (okp := fun _ => True) ?hr ?hp (fun _ hk => hk) trivial (Below.refl _ _) (Nat.le_refl _) (by simp) ?_; (case hd => rfl); (case hg => rfl); (case hr => first | (go_simp; done) | (go_simp; rfl)); (case hp => exact (Reps.one (show Kd.M (Kd.int .u8) _ _ _ ((wrap64 (224 + (wrap64 (Int.tdiv a0 4096)))) % 256) [.int .u8 ((wrap64 (224 + (wrap64 (Int.tdiv a0 4096)))) % 256)] from rfl) (Reps.one (show Kd.M (Kd.int .u8) _ _ _ ((wrap64 (128 + (Int.tmod (wrap64 (Int.tdiv a0 64)) 64))) % 256) [.int .u8 ((wrap64 (128 + (Int.tmod (wrap64 (Int.tdiv a0 64)) 64))) % 256)] from rfl) (Reps.one (show Kd.M (Kd.int .u8) _ _ _ ((wrap64 (128 + (Int.tmod a0 64))) % 256) [.int .u8 ((wrap64 (128 + (Int.tmod a0 64))) % 256)] from rfl) (Reps.none _ _))))); intro v109 w13 ho14 hb hg_ hnew_; clear hg_ hnew_; (first | rw [← Ny108.out] at ho14 | (simp only [Int.reduceToNat] at ho14; rw [← Ny108.out] at ho14)); have n0_ := Aside0.mk (Kd.R_lower ho14 (below_size (by repeat (first | (with_reducible first | exact HB.out | apply below_alloc | apply pw_below_drewN | apply below_drew1) | exact HB.out)))); have n1_ := Aside0.mk (below_step (by repeat (first | (with_reducible first | exact HB.out | apply below_alloc | apply pw_below_drewN | apply below_drew1) | exact HB.out)) hb); clear HB; have HO110 := n0_; have HB := n1_; clear n0_ n1_; clear hb ho14; have hcv15 := own_string (P := Tryd.prog) Tryd.underlying49 Tryd.underlying5 Tryd.underlying9 (Kd.own_of_R HO110.out)))
          go_ret2
          exact ⟨by first | rfl | (simp [errW_none, errW_some] <;> rfl) | (simp [*, errW_none, errW_some] <;> rfl), by repeat (first | (with_reducible first | exact HB.out | apply below_alloc | apply pw_below_drewN | apply below_drew1) | exact HB.out)⟩
        · rw [if_neg c12] at H
          have c12b0 : decide (a0 < 65536) = false := decide_eq_false c12
          clear c12
          obtain ⟨y111, hy111⟩ : ∃ y_ : List Int, y_ = (([(wrap64 (240 + (wrap64 (Int.tdiv a0 262144)))) % 256, (wrap64 (128 + (Int.tmod (wrap64 (Int.tdiv a0 4096)) 64))) % 256, (wrap64 (128 + (Int.tmod (wrap64 (Int.tdiv a0 64)) 64))) % 256, (wrap64 (128 + (Int.tmod a0 64))) % 256] : List Int)) := ⟨_, rfl⟩
          replace H : (some (strOfNums y111, 0)) = some (r1, r2) := by first | (rw [hy111]; with_reducible exact H) | (have H2_ := (Option.bind_some _ _).symm.trans H; rw [hy111]; with_reducible exact H2_) | (have H2_ := (Option.bind_some _ _).symm.trans H; with_reducible exact H2_) | with_reducible exact H | (rw [hy111]; exact H) | exact H
          have Ny111 := Aside0.mk hy111
          clear hy111
          simp only [Option.some.injEq, Prod.mk.injEq] at H
          obtain ⟨rfl, rfl⟩ := H
          go_enter Tryd.func86, Tryd.ntmps86
          go_wp2_with (first | ((with_reducible refine gate_callee (f := 89) rfl ?_); refine goesL_ (some 6) rfl rfl Tryd.func89 (by kernel_rfl) rfl #[.int .i64 a0] rfl (by (try simp only [List.map_toArray, List.map_cons, List.map_nil]); first | done | rfl | (simp only [List.length_drop, List.length_take]; rfl)) ?_; (with_reducible refine (wharfref01_Is.calls a0 true _ A2.out).mono ?_); rintro e w' ⟨rfl, ⟨nd, rfl⟩⟩; refine ⟨_, rfl, ?_⟩) | ((with_reducible refine gate_dst (N := 26) rfl ?_); refine Kd.R_lit (Kd.int .u8) _ 5 ?hg (N := 26) ?hd (xs := ([(wrap64 (240 + (wrap64 (Int.tdiv a0 262144)))) % 256, (wrap64 (128 + (Int.tmod (wrap64 (Int.tdiv a0 4096)) 64))) % 256, (wrap64 (128 + (Int.tmod (wrap64 (Int.tdiv a0 64)) 64))) % 256, (wrap64 (128 + (Int.tmod a0 64))) % 256] : List Int)) (inner := [.int .u8 ((wrap64 (240 + (wrap64 (Int.tdiv a0 262144)))) % 256), .int .u8 ((wrap64 (128 + (Int.tmod (wrap64 (Int.tdiv a0 4096)) 64))) % 256), .int .u8 ((wrap64 (128 + (Int.tmod (wrap64 (Int.tdiv a0 64)) 64))) % 256), .int .u8 ((wrap64 (128 + (Int.tmod a0 64))) % 256)]) (ok := fun _ => True) (okp := fun _ => True) ?hr ?hp (fun _ hk => hk) trivial (Below.refl _ _) (Nat.le_refl _) (by simp) ?_; (case hd => rfl); (case hg => rfl); (case hr => first | (go_simp; done) | (go_simp; rfl)); (case hp => exact (Reps.one (show Kd.M (Kd.int .u8) _ _ _ ((wrap64 (240 + (wrap64 (Int.tdiv a0 262144)))) % 256) [.int .u8 ((wrap64 (240 + (wrap64 (Int.tdiv a0 262144)))) % 256)] from rfl) (Reps.one (show Kd.M (Kd.int .u8) _ _ _ ((wrap64 (128 + (Int.tmod (wrap64 (Int.tdiv a0 4096)) 64))) % 256) [.int .u8 ((wrap64 (128 + (Int.tmod (wrap64 (Int.tdiv a0 4096)) 64))) % 256)] from rfl) (Reps.one (show Kd.M (Kd.int .u8) _ _ _ ((wrap64 (128 + (Int.tmod (wrap64 (Int.tdiv a0 64)) 64))) % 256) [.int .u8 ((wrap64 (128 + (Int.tmod (wrap64 (Int.tdiv a0 64)) 64))) % 256)] from rfl) (Reps.one (show Kd.M (Kd.int .u8) _ _ _ ((wrap64 (128 + (Int.tmod a0 64))) % 256) [.int .u8 ((wrap64 (128 + (Int.tmod a0 64))) % 256)] from rfl) (Reps.none _ _)))))); intro v112 w16 ho17 hb hg_ hnew_; clear hg_ hnew_; (first | rw [← Ny111.out] at ho17 | (simp only [Int.reduceToNat] at ho17; rw [← Ny111.out] at ho17)); have n0_ := Aside0.mk (Kd.R_lower ho17 (below_size (by repeat (first | (with_reducible first | exact HB.out | apply below_alloc | apply pw_below_drewN | apply below_drew1) | exact HB.out)))); have n1_ := Aside0.mk (below_step (by repeat (first | (with_reducible first | exact HB.out | apply below_alloc | apply pw_below_drewN | apply below_drew1) | exact HB.out)) hb); clear HB; have HO113 := n0_; have HB := n1_; clear n0_ n1_; clear hb ho17; have hcv18 := own_string (P := Tryd.prog) Tryd.underlying49 Tryd.underlying5 Tryd.underlying9 (Kd.own_of_R HO113.out)))
          go_ret2
          exact ⟨by first | rfl | (simp [errW_none, errW_some] <;> rfl) | (simp [*, errW_none, errW_some] <;> rfl), by repeat (first | (with_reducible first | exact HB.out | apply below_alloc | apply pw_below_drewN | apply below_drew1) | exact HB.out)⟩
  · replace c3 := Bool.eq_false_iff.mpr c3
    subst c3
    have H1 : (some ((⟨#[]⟩ : ByteArray), 10)) = some (r1, r2) := by rw [if_neg (show ¬ (false = true) by decide)] at H; exact H
    clear H
    have H := H1
    clear H1
    simp only [Option.some.injEq, Prod.mk.injEq] at H
    obtain ⟨rfl, rfl⟩ := H
    go_enter Tryd.func86, Tryd.ntmps86
    go_wp2_with (first | ((with_reducible refine gate_callee (f := 89) rfl ?_); refine goesL_ (some 6) rfl rfl Tryd.func89 (by kernel_rfl) rfl #[.int .i64 a0] rfl (by (try simp only [List.map_toArray, List.map_cons, List.map_nil]); first | done | rfl | (simp only [List.length_drop, List.length_take]; rfl)) ?_; (with_reducible refine (wharfref01_Is.calls a0 false _ A2.out).mono ?_); rintro e w' ⟨rfl, ⟨nd, rfl⟩⟩; refine ⟨_, rfl, ?_⟩))
    go_ret2
    exact ⟨by first | rfl | (simp [errW_none, errW_some] <;> rfl) | (simp [*, errW_none, errW_some] <;> rfl), by repeat (first | (with_reducible first | exact HB.out | apply below_alloc | apply pw_below_drewN | apply below_drew1) | exact HB.out)⟩

/-! ### wharfref01_First: function 76 -/
mutual
def wharfref01_First.j2 : Nat → ByteArray → Int → Int → Option (Int × Int × Int)
  | 0, _, _, _ => none
  | k + 1, x0, x6, x7 => if (x0.size : Int) < x6 then (some (0, 0, 10)) else (wharfref01_First.l0 k x0 x6 x7 1)
def wharfref01_First.l0 : Nat → ByteArray → Int → Int → Int → Option (Int × Int × Int)
  | 0, _, _, _, _ => none
  | k + 1, x0, x6, x7, x8 => if x8 < x6 then (if 0 ≤ x8 then (if x8 < (x0.size : Int) then (if (bt x0 x8) < 128 then (some (0, 0, 10)) else (if (bt x0 x8) ≥ 192 then (some (0, 0, 10)) else (wharfref01_First.l0 k x0 x6 (wrap64 ((wrap64 ((wrap64 (64 * x7)) + (wrap64 (bt x0 x8)))) - 128)) (wrap64 (x8 + 1))))) else (none)) else (none)) else ((wharfref01_Put.f x7).bind fun bt114 => (if bt114.2 = 0 then (if 0 ≤ x6 then (if x6 ≤ (x0.size : Int) then (if bt114.1.toList = (x0.extract 0 (x6 : Int).toNat).toList then (some (x7, x6, 0)) else (some (0, 0, 10))) else (none)) else (none)) else (some (0, 0, 10))))
def wharfref01_First.j0 : Nat → ByteArray → Int → Bool → Option (Int × Int × Int)
  | 0, _, _, _ => none
  | k + 1, x0, x5, x20 => if x20 = true then (wharfref01_First.j2 k x0 2 (wrap64 (x5 - 192))) else (if x5 ≥ 224 then (wharfref01_First.j1 k x0 x5 (decide (x5 < 240))) else (wharfref01_First.j1 k x0 x5 false))
def wharfref01_First.j1 : Nat → ByteArray → Int → Bool → Option (Int × Int × Int)
  | 0, _, _, _ => none
  | k + 1, x0, x5, x29 => if x29 = true then (wharfref01_First.j2 k x0 3 (wrap64 (x5 - 224))) else (if x5 ≥ 240 then (if x5 < 248 then (wharfref01_First.j2 k x0 4 (wrap64 (x5 - 240))) else (some (0, 0, 10))) else (some (0, 0, 10)))
end
def wharfref01_First.f (k : Nat) (a0 : ByteArray) : Option (Int × Int × Int) := if a0.toList = ([] : List UInt8) then (some (0, 0, 10)) else (if 0 < (a0.size : Int) then (if (wrap64 (bt a0 0)) < 128 then (wharfref01_First.j2 k a0 1 (wrap64 (bt a0 0))) else (if (wrap64 (bt a0 0)) ≥ 192 then (wharfref01_First.j0 k a0 (wrap64 (bt a0 0)) (decide ((wrap64 (bt a0 0)) < 224))) else (wharfref01_First.j0 k a0 (wrap64 (bt a0 0)) false))) else (none))
theorem wharfref01_First.mono_l : ∀ k, (∀ y0 y1 y2, LeO (wharfref01_First.j2 k y0 y1 y2) (wharfref01_First.j2 (k + 1) y0 y1 y2)) ∧ (∀ y0 y1 y2 y3, LeO (wharfref01_First.l0 k y0 y1 y2 y3) (wharfref01_First.l0 (k + 1) y0 y1 y2 y3)) ∧ (∀ y0 y1 y2, LeO (wharfref01_First.j0 k y0 y1 y2) (wharfref01_First.j0 (k + 1) y0 y1 y2)) ∧ (∀ y0 y1 y2, LeO (wharfref01_First.j1 k y0 y1 y2) (wharfref01_First.j1 (k + 1) y0 y1 y2))
  | 0 => ⟨fun _ _ _ r h => by simp [wharfref01_First.j2] at h, fun _ _ _ _ r h => by simp [wharfref01_First.l0] at h, fun _ _ _ r h => by simp [wharfref01_First.j0] at h, fun _ _ _ r h => by simp [wharfref01_First.j1] at h⟩
  | k + 1 => by
    obtain ⟨ih0, ih1, ih2, ih3⟩ := wharfref01_First.mono_l k
    refine ⟨?_, ?_, ?_, ?_⟩
    · intro y0 y1 y2
      unfold wharfref01_First.j2
      repeat' first
      | (with_reducible exact ih0 _ _ _)
      | (with_reducible exact ih1 _ _ _ _)
      | (with_reducible exact ih2 _ _ _)
      | (with_reducible exact ih3 _ _ _)
      | (with_reducible exact LeO.refl _)
      | (with_reducible exact LeO.none _)
      | (with_reducible refine LeO.ite ?_ ?_)
      | (with_reducible refine LeO.bind ?_ (fun _ => ?_))
      | exact ih0 _ _ _
      | exact ih1 _ _ _ _
      | exact ih2 _ _ _
      | exact ih3 _ _ _
      | exact LeO.none _
      | refine LeO.ite ?_ ?_
      | refine LeO.bind ?_ (fun _ => ?_)
    · intro y0 y1 y2 y3
      unfold wharfref01_First.l0
      repeat' first
      | (with_reducible exact ih0 _ _ _)
      | (with_reducible exact ih1 _ _ _ _)
      | (with_reducible exact ih2 _ _ _)
      | (with_reducible exact ih3 _ _ _)
      | (with_reducible exact LeO.refl _)
      | (with_reducible exact LeO.none _)
      | (with_reducible refine LeO.ite ?_ ?_)
      | (with_reducible refine LeO.bind ?_ (fun _ => ?_))
      | exact ih0 _ _ _
      | exact ih1 _ _ _ _
      | exact ih2 _ _ _
      | exact ih3 _ _ _
      | exact LeO.none _
      | refine LeO.ite ?_ ?_
      | refine LeO.bind ?_ (fun _ => ?_)
    · intro y0 y1 y2
      unfold wharfref01_First.j0
      repeat' first
      | (with_reducible exact ih0 _ _ _)
      | (with_reducible exact ih1 _ _ _ _)
      | (with_reducible exact ih2 _ _ _)
      | (with_reducible exact ih3 _ _ _)
      | (with_reducible exact LeO.refl _)
      | (with_reducible exact LeO.none _)
      | (with_reducible refine LeO.ite ?_ ?_)
      | (with_reducible refine LeO.bind ?_ (fun _ => ?_))
      | exact ih0 _ _ _
      | exact ih1 _ _ _ _
      | exact ih2 _ _ _
      | exact ih3 _ _ _
      | exact LeO.none _
      | refine LeO.ite ?_ ?_
      | refine LeO.bind ?_ (fun _ => ?_)
    · intro y0 y1 y2
      unfold wharfref01_First.j1
      repeat' first
      | (with_reducible exact ih0 _ _ _)
      | (with_reducible exact ih1 _ _ _ _)
      | (with_reducible exact ih2 _ _ _)
      | (with_reducible exact ih3 _ _ _)
      | (with_reducible exact LeO.refl _)
      | (with_reducible exact LeO.none _)
      | (with_reducible refine LeO.ite ?_ ?_)
      | (with_reducible refine LeO.bind ?_ (fun _ => ?_))
      | exact ih0 _ _ _
      | exact ih1 _ _ _ _
      | exact ih2 _ _ _
      | exact ih3 _ _ _
      | exact LeO.none _
      | refine LeO.ite ?_ ?_
      | refine LeO.bind ?_ (fun _ => ?_)
theorem wharfref01_First.mono : ∀ a0 k, LeO (wharfref01_First.f k a0) (wharfref01_First.f (k + 1) a0) := by
  intro a0 k
  obtain ⟨ih0, ih1, ih2, ih3⟩ := wharfref01_First.mono_l k
  unfold wharfref01_First.f
  repeat' first
      | (with_reducible exact ih0 _ _ _)
      | (with_reducible exact ih1 _ _ _ _)
      | (with_reducible exact ih2 _ _ _)
      | (with_reducible exact ih3 _ _ _)
      | (with_reducible exact LeO.refl _)
      | (with_reducible exact LeO.none _)
      | (with_reducible refine LeO.ite ?_ ?_)
      | (with_reducible refine LeO.bind ?_ (fun _ => ?_))
      | exact ih0 _ _ _
      | exact ih1 _ _ _ _
      | exact ih2 _ _ _
      | exact ih3 _ _ _
      | exact LeO.none _
      | refine LeO.ite ?_ ?_
      | refine LeO.bind ?_ (fun _ => ?_)
set_option maxHeartbeats 8000000 in
set_option maxRecDepth 100000 in
theorem wharfref01_First.calls (k : Nat) (a0 : ByteArray) (r1 : Int) (r2 : Int) (r3 : Int) (w : World) (h : wharfref01_First.f k a0 = some (r1, r2, r3)) :
    Calls Tryd.prog 76 #[.string a0] w fun e w' => e = .returned (.tuple #[.int .i64 r1, .int .i64 r2, .int .i64 r3]) ∧ Below w.heap.size w w' := by
  have HB := Aside0.mk (Below.refl w.heap.size w)
  have H : (if a0.toList = ([] : List UInt8) then (some (0, 0, 10)) else (if 0 < (a0.size : Int) then (if (wrap64 (bt a0 0)) < 128 then (wharfref01_First.j2 k a0 1 (wrap64 (bt a0 0))) else (if (wrap64 (bt a0 0)) ≥ 192 then (wharfref01_First.j0 k a0 (wrap64 (bt a0 0)) (decide ((wrap64 (bt a0 0)) < 224))) else (wharfref01_First.j0 k a0 (wrap64 (bt a0 0)) false))) else (none))) = some (r1, r2, r3) := h
  clear h
  by_cases c2 : a0.toList = ([] : List UInt8)
  · rw [if_pos c2] at H
    have c2b0 : (a0.toList == ([] : List UInt8)) = true := beq_iff_eq.mpr c2
    have c2b1 : (a0.toList != ([] : List UInt8)) = false := bne_eq_false_iff_eq.mpr c2
    clear c2
    simp only [Option.some.injEq, Prod.mk.injEq] at H
    obtain ⟨rfl, rfl, rfl⟩ := H
    go_enter Tryd.func76, Tryd.ntmps76
    go_wp2
    go_ret3
    exact ⟨by first | rfl | (simp [errW_none, errW_some] <;> rfl) | (simp [*, errW_none, errW_some] <;> rfl), by repeat (first | (with_reducible first | exact HB.out | apply below_alloc | apply pw_below_drewN | apply below_drew1) | exact HB.out)⟩
  · rw [if_neg c2] at H
    have c2b0 : (a0.toList == ([] : List UInt8)) = false := beq_eq_false_iff_ne.mpr c2
    have c2b1 : (a0.toList != ([] : List UInt8)) = true := bne_iff_ne.mpr c2
    by_cases c3 : 0 < (a0.size : Int)
    · rw [if_pos c3] at H
      have c3b0 : decide (0 < (a0.size : Int)) = true := decide_eq_true c3
      have c3b1 : decide (0 < a0.size) = true := decide_eq_true (by omega)
      clear c3
      have HC5 := Aside0.mk H
      clear H
      have p4 : 0 ≤ (0 : Int) := (by omega)
      have q4 : 0 < a0.size := (by have : (0 : Int) < (a0.size : Int) := of_decide_eq_true (by first | (with_reducible assumption) | assumption); omega)
      have hx4 : ∀ h : 0 < a0.size, ((a0[0]'h).toNat : Int) = bt a0 0 := bt_at a0 0
      clear p4
      have qi4 : (0 < (a0.size : Int)) = True := eq_true (of_decide_eq_true (by first | (with_reducible assumption) | assumption))
      replace q4 := eq_true q4
      go_enter Tryd.func76, Tryd.ntmps76
      go_upto_block 0 with (fail)
      go_cut [6, 7] (fun v6 v7 wc => ∃ (kq : Nat) (x6_4 : Int) (x7_4 : Int), v6 = .int .i64 x6_4 ∧ v7 = .int .i64 x7_4 ∧ Aside0 (wharfref01_First.j2 kq a0 x6_4 x7_4 = some (r1, r2, r3)) ∧ Aside0 (kq ≤ k) ∧ Aside0 (Below w.heap.size w wc))
      case first =>
        have H := HC5.out
        clear HC5
        by_cases c6 : (wrap64 (bt a0 0)) < 128
        · rw [if_pos c6] at H
          have c6b0 : decide ((wrap64 (bt a0 0)) < 128) = true := decide_eq_true c6
          clear c6
          (first | rw [c6b0] | (simp only [i64_w, i32_w]; rw [c6b0]) | skip)
          have H' := Aside0.mk H
          clear H
          go_wp2
          go_meet
          case rel => exact ⟨_, (1), (wrap64 (bt a0 0)), (by first | rfl | (simp; done) | (simp [*]; done)), (by first | rfl | (simp; done) | (simp [*]; done)), H', ⟨by first | omega | exact Nat.le_refl _⟩, ⟨by repeat (first | (with_reducible first | exact HB.out | apply below_alloc | apply pw_below_drewN | apply below_drew1) | exact HB.out)⟩⟩
        · rw [if_neg c6] at H
          have c6b0 : decide ((wrap64 (bt a0 0)) < 128) = false := decide_eq_false c6
          clear c6
          (first | rw [c6b0] | (simp only [i64_w, i32_w]; rw [c6b0]) | skip)
          have HC7 := Aside0.mk H
          clear H
          go_upto_region 7 with (fail)
          go_cut [20] (fun v20 wc => ∃ (kq : Nat) (x20_6 : Bool), v20 = .bool x20_6 ∧ Aside0 (wharfref01_First.j0 kq a0 (wrap64 (bt a0 0)) x20_6 = some (r1, r2, r3)) ∧ Aside0 (kq ≤ k) ∧ Aside0 (Below w.heap.size w wc))
          case first =>
            have H := HC7.out
            clear HC7
            by_cases c8 : (wrap64 (bt a0 0)) ≥ 192
            · rw [if_pos c8] at H
              have c8b0 : decide (192 ≤ (wrap64 (bt a0 0))) = true := decide_eq_true c8
              clear c8
              (first | rw [c8b0] | (simp only [i64_w, i32_w]; rw [c8b0]) | skip)
              have H' := Aside0.mk H
              clear H
              go_wp2
              go_meet
              case rel => exact ⟨_, (decide ((wrap64 (bt a0 0)) < 224)), (by first | rfl | (simp; done) | (simp [*]; done)), H', ⟨by first | omega | exact Nat.le_refl _⟩, ⟨by repeat (first | (with_reducible first | exact HB.out | apply below_alloc | apply pw_below_drewN | apply below_drew1) | exact HB.out)⟩⟩
            · rw [if_neg c8] at H
              have c8b0 : decide (192 ≤ (wrap64 (bt a0 0))) = false := decide_eq_false c8
              clear c8
              (first | rw [c8b0] | (simp only [i64_w, i32_w]; rw [c8b0]) | skip)
              have H' := Aside0.mk H
              clear H
              go_wp2
              go_meet
              case rel => exact ⟨_, (false), (by first | rfl | (simp; done) | (simp [*]; done)), H', ⟨by first | omega | exact Nat.le_refl _⟩, ⟨by repeat (first | (with_reducible first | exact HB.out | apply below_alloc | apply pw_below_drewN | apply below_drew1) | exact HB.out)⟩⟩
          case rest =>
            clear HC7
            try clear c2
            try clear c2b0
            try clear c2b1
            try clear p2
            try clear c3
            try clear c3b0
            try clear c3b1
            try clear p4
            try clear q4
            try clear hx4
            try clear qi4
            try clear c6
            try clear c6b0
            try clear p6
            try clear c7
            try clear c8
            try clear c8b0
            try clear p4
            try clear q4
            obtain ⟨kq, x20_6, rfl, HA, HJ6, HB⟩ := hcut
            cases kq with
            | zero => exact absurd HA.out (by simp [wharfref01_First.j0])
            | succ kj6 =>
              have H := HA.out
              clear HA
              simp only [wharfref01_First.j0] at H
              by_cases c9 : x20_6 = true
              · subst c9
                have H1 : (wharfref01_First.j2 kj6 a0 2 (wrap64 ((wrap64 (bt a0 0)) - 192))) = some (r1, r2, r3) := by rw [if_pos rfl] at H; exact H
                clear H
                have H := H1
                clear H1
                have H' := Aside0.mk H
                clear H
                go_wp2
                go_meet
                case rel => exact ⟨_, (2), (wrap64 ((wrap64 (bt a0 0)) - 192)), (by first | rfl | (simp; done) | (simp [*]; done)), (by first | rfl | (simp; done) | (simp [*]; done)), H', ⟨by have := HJ6.out; first | omega | exact Nat.le_refl _⟩, ⟨by repeat (first | (with_reducible first | exact HB.out | apply below_alloc | apply pw_below_drewN | apply below_drew1) | exact HB.out)⟩⟩
              · replace c9 := Bool.eq_false_iff.mpr c9
                subst c9
                have H1 : (if (wrap64 (bt a0 0)) ≥ 224 then (wharfref01_First.j1 kj6 a0 (wrap64 (bt a0 0)) (decide ((wrap64 (bt a0 0)) < 240))) else (wharfref01_First.j1 kj6 a0 (wrap64 (bt a0 0)) false)) = some (r1, r2, r3) := by rw [if_neg (show ¬ (false = true) by decide)] at H; exact H
                clear H
                have H := H1
                clear H1
                have HC10 := Aside0.mk H
                clear H
                go_upto_region 9 with (fail)
                go_cut [29] (fun v29 wc => ∃ (kq : Nat) (x29_9 : Bool), v29 = .bool x29_9 ∧ Aside0 (wharfref01_First.j1 kq a0 (wrap64 (bt a0 0)) x29_9 = some (r1, r2, r3)) ∧ Aside0 (kq ≤ kj6) ∧ Aside0 (Below w.heap.size w wc))
                case first =>
                  have H := HC10.out
                  clear HC10
                  by_cases c11 : (wrap64 (bt a0 0)) ≥ 224
                  · rw [if_pos c11] at H
                    have c11b0 : decide (224 ≤ (wrap64 (bt a0 0))) = true := decide_eq_true c11
                    clear c11
                    (first | rw [c11b0] | (simp only [i64_w, i32_w]; rw [c11b0]) | skip)
                    have H' := Aside0.mk H
                    clear H
                    go_wp2
                    go_meet
                    case rel => exact ⟨_, (decide ((wrap64 (bt a0 0)) < 240)), (by first | rfl | (simp; done) | (simp [*]; done)), H', ⟨by have := HJ6.out; first | omega | exact Nat.le_refl _⟩, ⟨by repeat (first | (with_reducible first | exact HB.out | apply below_alloc | apply pw_below_drewN | apply below_drew1) | exact HB.out)⟩⟩
                  · rw [if_neg c11] at H
                    have c11b0 : decide (224 ≤ (wrap64 (bt a0 0))) = false := decide_eq_false c11
                    clear c11
                    (first | rw [c11b0] | (simp only [i64_w, i32_w]; rw [c11b0]) | skip)
                    have H' := Aside0.mk H
                    clear H
                    go_wp2
                    go_meet
                    case rel => exact ⟨_, (false), (by first | rfl | (simp; done) | (simp [*]; done)), H', ⟨by have := HJ6.out; first | omega | exact Nat.le_refl _⟩, ⟨by repeat (first | (with_reducible first | exact HB.out | apply below_alloc | apply pw_below_drewN | apply below_drew1) | exact HB.out)⟩⟩
                case rest =>
                  clear HC10
                  try clear c1
                  try clear c2
                  try clear c2b0
                  try clear c2b1
                  try clear p2
                  try clear c3
                  try clear c3b0
                  try clear c3b1
                  try clear p4
                  try clear q4
                  try clear hx4
                  try clear qi4
                  try clear c6
                  try clear c6b0
                  try clear p6
                  try clear c7
                  try clear c8
                  try clear c8b0
                  try clear c9
                  try clear c11
                  try clear c11b0
                  try clear p2
                  try clear p4
                  try clear p6
                  try clear q4
                  obtain ⟨kq, x29_9, rfl, HA, HJ9, HB⟩ := hcut
                  cases kq with
                  | zero => exact absurd HA.out (by simp [wharfref01_First.j1])
                  | succ kj9 =>
                    have H := HA.out
                    clear HA
                    simp only [wharfref01_First.j1] at H
                    by_cases c12 : x29_9 = true
                    · subst c12
                      have H1 : (wharfref01_First.j2 kj9 a0 3 (wrap64 ((wrap64 (bt a0 0)) - 224))) = some (r1, r2, r3) := by rw [if_pos rfl] at H; exact H
                      clear H
                      have H := H1
                      clear H1
                      have H' := Aside0.mk H
                      clear H
                      go_wp2
                      go_meet
                      case rel => exact ⟨_, (3), (wrap64 ((wrap64 (bt a0 0)) - 224)), (by first | rfl | (simp; done) | (simp [*]; done)), (by first | rfl | (simp; done) | (simp [*]; done)), H', ⟨by have := HJ6.out; have := HJ9.out; first | omega | exact Nat.le_refl _⟩, ⟨by repeat (first | (with_reducible first | exact HB.out | apply below_alloc | apply pw_below_drewN | apply below_drew1) | exact HB.out)⟩⟩
                    · replace c12 := Bool.eq_false_iff.mpr c12
                      subst c12
                      have H1 : (if (wrap64 (bt a0 0)) ≥ 240 then (if (wrap64 (bt a0 0)) < 248 then (wharfref01_First.j2 kj9 a0 4 (wrap64 ((wrap64 (bt a0 0)) - 240))) else (some (0, 0, 10))) else (some (0, 0, 10))) = some (r1, r2, r3) := by rw [if_neg (show ¬ (false = true) by decide)] at H; exact H
                      clear H
                      have H := H1
                      clear H1
                      by_cases c13 : (wrap64 (bt a0 0)) ≥ 240
                      · rw [if_pos c13] at H
                        have c13b0 : decide (240 ≤ (wrap64 (bt a0 0))) = true := decide_eq_true c13
                        clear c13
                        by_cases c14 : (wrap64 (bt a0 0)) < 248
                        · rw [if_pos c14] at H
                          have c14b0 : decide ((wrap64 (bt a0 0)) < 248) = true := decide_eq_true c14
                          clear c14
                          have H' := Aside0.mk H
                          clear H
                          go_wp2
                          go_meet
                          case rel => exact ⟨_, (4), (wrap64 ((wrap64 (bt a0 0)) - 240)), (by first | rfl | (simp; done) | (simp [*]; done)), (by first | rfl | (simp; done) | (simp [*]; done)), H', ⟨by have := HJ6.out; have := HJ9.out; first | omega | exact Nat.le_refl _⟩, ⟨by repeat (first | (with_reducible first | exact HB.out | apply below_alloc | apply pw_below_drewN | apply below_drew1) | exact HB.out)⟩⟩
                        · rw [if_neg c14] at H
                          have c14b0 : decide ((wrap64 (bt a0 0)) < 248) = false := decide_eq_false c14
                          clear c14
                          simp only [Option.some.injEq, Prod.mk.injEq] at H
                          obtain ⟨rfl, rfl, rfl⟩ := H
                          go_wp2
                          go_ret3
                          exact ⟨by first | rfl | (simp [errW_none, errW_some] <;> rfl) | (simp [*, errW_none, errW_some] <;> rfl), by repeat (first | (with_reducible first | exact HB.out | apply below_alloc | apply pw_below_drewN | apply below_drew1) | exact HB.out)⟩
                      · rw [if_neg c13] at H
                        have c13b0 : decide (240 ≤ (wrap64 (bt a0 0))) = false := decide_eq_false c13
                        clear c13
                        simp only [Option.some.injEq, Prod.mk.injEq] at H
                        obtain ⟨rfl, rfl, rfl⟩ := H
                        go_wp2
                        go_ret3
                        exact ⟨by first | rfl | (simp [errW_none, errW_some] <;> rfl) | (simp [*, errW_none, errW_some] <;> rfl), by repeat (first | (with_reducible first | exact HB.out | apply below_alloc | apply pw_below_drewN | apply below_drew1) | exact HB.out)⟩
      case rest =>
        clear HC5
        try clear c1
        try clear c2
        try clear c2b0
        try clear c2b1
        try clear p2
        try clear c3
        try clear c3b0
        try clear c3b1
        try clear p4
        try clear q4
        try clear hx4
        try clear qi4
        try clear c6
        try clear c6b0
        try clear p6
        try clear c7
        try clear c8
        try clear c8b0
        try clear c9
        try clear c11
        try clear c11b0
        try clear c12
        try clear c13
        try clear c13b0
        try clear c14
        try clear c14b0
        try clear p2
        try clear p4
        try clear p6
        try clear q4
        obtain ⟨kq, x6_4, x7_4, rfl, rfl, HA, HJ4, HB⟩ := hcut
        cases kq with
        | zero => exact absurd HA.out (by simp [wharfref01_First.j2])
        | succ kj4 =>
          have H := HA.out
          clear HA
          simp only [wharfref01_First.j2] at H
          by_cases c15 : (a0.size : Int) < x6_4
          · rw [if_pos c15] at H
            have c15b0 : decide ((a0.size : Int) < x6_4) = true := decide_eq_true c15
            clear c15
            simp only [Option.some.injEq, Prod.mk.injEq] at H
            obtain ⟨rfl, rfl, rfl⟩ := H
            go_wp2
            go_ret3
            exact ⟨by first | rfl | (simp [errW_none, errW_some] <;> rfl) | (simp [*, errW_none, errW_some] <;> rfl), by repeat (first | (with_reducible first | exact HB.out | apply below_alloc | apply pw_below_drewN | apply below_drew1) | exact HB.out)⟩
          · rw [if_neg c15] at H
            have c15b0 : decide ((a0.size : Int) < x6_4) = false := decide_eq_false c15
            clear c15
            have H' := Aside0.mk H
            clear H
            go_wp2
            go_loopg [7, 8] kj4 (fun kq v7 v8 w' => ∃ (x7_2 : Int) (x8_2 : Int), v7 = .int .i64 x7_2 ∧ v8 = .int .i64 x8_2 ∧ Aside0 (wharfref01_First.l0 kq a0 x6_4 x7_2 x8_2 = some (r1, r2, r3)) ∧ Aside0 (kq ≤ kj4) ∧ Aside0 (Below w.heap.size w w'))
            case atStart => exact ⟨(x7_4), (1), (by first | rfl | (simp; done) | (simp [*]; done)), (by first | rfl | (simp; done) | (simp [*]; done)), H', ⟨Nat.le_refl _⟩, ⟨by repeat (first | (with_reducible first | exact HB.out | apply below_alloc | apply pw_below_drewN | apply below_drew1) | exact HB.out)⟩⟩
            case round =>
              clear H'
              try clear c1
              try clear c2
              try clear c2b0
              try clear c2b1
              try clear p2
              try clear c3
              try clear c3b0
              try clear c3b1
              try clear p4
              try clear q4
              try clear hx4
              try clear qi4
              try clear c6
              try clear c6b0
              try clear p6
              try clear c7
              try clear c8
              try clear c8b0
              try clear c9
              try clear c11
              try clear c11b0
              try clear c12
              try clear c13
              try clear c13b0
              try clear c14
              try clear c14b0
              try clear c15
              try clear c15b0
              try clear p2
              try clear p4
              try clear p6
              try clear q4
              obtain ⟨x7_2, x8_2, rfl, rfl, HA, HK2, HB⟩ := hrel
              cases gk with
              | zero => exact absurd HA.out (by simp [wharfref01_First.l0])
              | succ k2 =>
                have H := HA.out
                clear HA
                simp only [wharfref01_First.l0] at H
                by_cases c16 : x8_2 < x6_4
                · rw [if_pos c16] at H
                  have c16b0 : decide (x8_2 < x6_4) = true := decide_eq_true c16
                  clear c16
                  by_cases c17 : 0 ≤ x8_2
                  · rw [if_pos c17] at H
                    have c17b0 : decide (0 ≤ x8_2) = true := decide_eq_true c17
                    clear c17
                    by_cases c18 : x8_2 < (a0.size : Int)
                    · rw [if_pos c18] at H
                      have c18b0 : decide (x8_2 < (a0.size : Int)) = true := decide_eq_true c18
                      clear c18
                      by_cases c20 : (bt a0 x8_2) < 128
                      · rw [if_pos c20] at H
                        have c20b0 : decide ((bt a0 x8_2) < 128) = true := decide_eq_true c20
                        clear c20
                        simp only [Option.some.injEq, Prod.mk.injEq] at H
                        obtain ⟨rfl, rfl, rfl⟩ := H
                        have p19 : 0 ≤ (x8_2 : Int) := of_decide_eq_true (by first | (with_reducible assumption) | assumption)
                        have q19 : x8_2 < (a0.size : Int) := of_decide_eq_true (by first | (with_reducible assumption) | assumption)
                        have hx19 := bt_at a0 x8_2
                        replace p19 := eq_true p19
                        replace q19 := eq_true q19
                        go_wp2
                        go_ret3
                        exact ⟨by first | rfl | (simp [errW_none, errW_some] <;> rfl) | (simp [*, errW_none, errW_some] <;> rfl), by repeat (first | (with_reducible first | exact HB.out | apply below_alloc | apply pw_below_drewN | apply below_drew1) | exact HB.out)⟩
                      · rw [if_neg c20] at H
                        have c20b0 : decide ((bt a0 x8_2) < 128) = false := decide_eq_false c20
                        clear c20
                        by_cases c22 : (bt a0 x8_2) ≥ 192
                        · rw [if_pos c22] at H
                          have c22b0 : decide (192 ≤ (bt a0 x8_2)) = true := decide_eq_true c22
                          clear c22
                          simp only [Option.some.injEq, Prod.mk.injEq] at H
                          obtain ⟨rfl, rfl, rfl⟩ := H
                          have p19 : 0 ≤ (x8_2 : Int) := of_decide_eq_true (by first | (with_reducible assumption) | assumption)
                          have q19 : x8_2 < (a0.size : Int) := of_decide_eq_true (by first | (with_reducible assumption) | assumption)
                          have hx19 := bt_at a0 x8_2
                          replace p19 := eq_true p19
                          replace q19 := eq_true q19
                          have p21 : 0 ≤ (x8_2 : Int) := of_decide_eq_true (by first | (with_reducible assumption) | assumption)
                          have q21 : x8_2 < (a0.size : Int) := of_decide_eq_true (by first | (with_reducible assumption) | assumption)
                          have hx21 := bt_at a0 x8_2
                          replace p21 := eq_true p21
                          replace q21 := eq_true q21
                          go_wp2
                          go_ret3
                          exact ⟨by first | rfl | (simp [errW_none, errW_some] <;> rfl) | (simp [*, errW_none, errW_some] <;> rfl), by repeat (first | (with_reducible first | exact HB.out | apply below_alloc | apply pw_below_drewN | apply below_drew1) | exact HB.out)⟩
                        · rw [if_neg c22] at H
                          have c22b0 : decide (192 ≤ (bt a0 x8_2)) = false := decide_eq_false c22
                          clear c22
                          have H' := Aside0.mk H
                          clear H
                          have p19 : 0 ≤ (x8_2 : Int) := of_decide_eq_true (by first | (with_reducible assumption) | assumption)
                          have q19 : x8_2 < (a0.size : Int) := of_decide_eq_true (by first | (with_reducible assumption) | assumption)
                          have hx19 := bt_at a0 x8_2
                          replace p19 := eq_true p19
                          replace q19 := eq_true q19
                          have p21 : 0 ≤ (x8_2 : Int) := of_decide_eq_true (by first | (with_reducible assumption) | assumption)
                          have q21 : x8_2 < (a0.size : Int) := of_decide_eq_true (by first | (with_reducible assumption) | assumption)
                          have hx21 := bt_at a0 x8_2
                          replace p21 := eq_true p21
                          replace q21 := eq_true q21
                          have p23 : 0 ≤ (x8_2 : Int) := of_decide_eq_true (by first | (with_reducible assumption) | assumption)
                          have q23 : x8_2 < (a0.size : Int) := of_decide_eq_true (by first | (with_reducible assumption) | assumption)
                          have hx23 := bt_at a0 x8_2
                          replace p23 := eq_true p23
                          replace q23 := eq_true q23
                          go_wp2
                          go_roundg k2
                          case measure => have := HJ4.out; have := HK2.out; omega
                          case rel => exact ⟨(wrap64 ((wrap64 ((wrap64 (64 * x7_2)) + (wrap64 (bt a0 x8_2)))) - 128)), (wrap64 (x8_2 + 1)), (by first | rfl | (simp; done) | (simp [*]; done)), (by first | rfl | (simp; done) | (simp [*]; done)), H', ⟨by have := HJ4.out; have := HK2.out; omega⟩, ⟨by repeat (first | (with_reducible first | exact HB.out | apply below_alloc | apply pw_below_drewN | apply below_drew1) | exact HB.out)⟩⟩
                    · rw [if_neg c18] at H
                      exact absurd H (by simp)
                  · rw [if_neg c17] at H
                    exact absurd H (by simp)
                · rw [if_neg c16] at H
                  have c16b0 : decide (x8_2 < x6_4) = false := decide_eq_false c16
                  clear c16
                  replace H := Option.bind_eq_some_iff.mp H
                  obtain ⟨⟨t114, t115⟩, A240, H⟩ := H
                  replace H : (if t115 = 0 then (if 0 ≤ x6_4 then (if x6_4 ≤ (a0.size : Int) then (if t114.toList = (a0.extract 0 (x6_4 : Int).toNat).toList then (some (x7_2, x6_4, 0)) else (some (0, 0, 10))) else (none)) else (none)) else (some (0, 0, 10))) = some (r1, r2, r3) := H
                  have A24 := Aside0.mk A240
                  clear A240
                  by_cases c25 : t115 = 0
                  · rw [if_pos c25] at H
                    have c25b0 : (t115 == 0) = true := beq_iff_eq.mpr c25
                    have c25b1 : (t115 != 0) = false := bne_eq_false_iff_eq.mpr c25
                    clear c25
                    by_cases c26 : 0 ≤ x6_4
                    · rw [if_pos c26] at H
                      have c26b0 := eq_true c26
                      have c26b1 : decide (0 ≤ x6_4) = true := decide_eq_true c26
                      clear c26
                      by_cases c27 : x6_4 ≤ (a0.size : Int)
                      · rw [if_pos c27] at H
                        have c27b0 := eq_true c27
                        have c27b1 : decide (x6_4 ≤ (a0.size : Int)) = true := decide_eq_true c27
                        clear c27
                        by_cases c28 : t114.toList = (a0.extract 0 (x6_4 : Int).toNat).toList
                        · rw [if_pos c28] at H
                          have c28b0 : (t114.toList == (a0.extract 0 (x6_4 : Int).toNat).toList) = true := beq_iff_eq.mpr c28
                          have c28b1 : (t114.toList != (a0.extract 0 (x6_4 : Int).toNat).toList) = false := bne_eq_false_iff_eq.mpr c28
                          clear c28
                          simp only [Option.some.injEq, Prod.mk.injEq] at H
                          obtain ⟨rfl, rfl, rfl⟩ := H
                          go_wp2_with (first | ((with_reducible refine gate_callee (f := 86) rfl ?_); refine goesL_ (some 76) rfl rfl Tryd.func86 (by kernel_rfl) rfl #[.int .i64 x7_2] rfl (by (try simp only [List.map_toArray, List.map_cons, List.map_nil]); first | done | rfl | (simp only [List.length_drop, List.length_take]; rfl)) ?_; (with_reducible refine (wharfref01_Put.calls x7_2 t114 t115 _ A24.out).mono ?_); rintro e w29 ⟨rfl, hb⟩; refine ⟨_, rfl, ?_⟩; have n0_ := Aside0.mk (below_step (by repeat (first | (with_reducible first | exact HB.out | apply below_alloc | apply pw_below_drewN | apply below_drew1) | exact HB.out)) hb); clear HB; have HB := n0_; clear n0_; (try clear hb); (try clear hb2); (try clear hk); (try clear hi)))
                          go_ret3
                          exact ⟨by first | rfl | (simp [errW_none, errW_some] <;> rfl) | (simp [*, errW_none, errW_some] <;> rfl), by repeat (first | (with_reducible first | exact HB.out | apply below_alloc | apply pw_below_drewN | apply below_drew1) | exact HB.out)⟩
                        · rw [if_neg c28] at H
                          have c28b0 : (t114.toList == (a0.extract 0 (x6_4 : Int).toNat).toList) = false := beq_eq_false_iff_ne.mpr c28
                          have c28b1 : (t114.toList != (a0.extract 0 (x6_4 : Int).toNat).toList) = true := bne_iff_ne.mpr c28
                          simp only [Option.some.injEq, Prod.mk.injEq] at H
                          obtain ⟨rfl, rfl, rfl⟩ := H
                          go_wp2_with (first | ((with_reducible refine gate_callee (f := 86) rfl ?_); refine goesL_ (some 76) rfl rfl Tryd.func86 (by kernel_rfl) rfl #[.int .i64 x7_2] rfl (by (try simp only [List.map_toArray, List.map_cons, List.map_nil]); first | done | rfl | (simp only [List.length_drop, List.length_take]; rfl)) ?_; (with_reducible refine (wharfref01_Put.calls x7_2 t114 t115 _ A24.out).mono ?_); rintro e w30 ⟨rfl, hb⟩; refine ⟨_, rfl, ?_⟩; have n0_ := Aside0.mk (below_step (by repeat (first | (with_reducible first | exact HB.out | apply below_alloc | apply pw_below_drewN | apply below_drew1) | exact HB.out)) hb); clear HB; have HB := n0_; clear n0_; (try clear hb); (try clear hb2); (try clear hk); (try clear hi)))
                          go_ret3
                          exact ⟨by first | rfl | (simp [errW_none, errW_some] <;> rfl) | (simp [*, errW_none, errW_some] <;> rfl), by repeat (first | (with_reducible first | exact HB.out | apply below_alloc | apply pw_below_drewN | apply below_drew1) | exact HB.out)⟩
                      · rw [if_neg c27] at H
                        exact absurd H (by simp)
                    · rw [if_neg c26] at H
                      exact absurd H (by simp)
                  · rw [if_neg c25] at H
                    have c25b0 : (t115 == 0) = false := beq_eq_false_iff_ne.mpr c25
                    have c25b1 : (t115 != 0) = true := bne_iff_ne.mpr c25
                    simp only [Option.some.injEq, Prod.mk.injEq] at H
                    obtain ⟨rfl, rfl, rfl⟩ := H
                    go_wp2_with (first | ((with_reducible refine gate_callee (f := 86) rfl ?_); refine goesL_ (some 76) rfl rfl Tryd.func86 (by kernel_rfl) rfl #[.int .i64 x7_2] rfl (by (try simp only [List.map_toArray, List.map_cons, List.map_nil]); first | done | rfl | (simp only [List.length_drop, List.length_take]; rfl)) ?_; (with_reducible refine (wharfref01_Put.calls x7_2 t114 t115 _ A24.out).mono ?_); rintro e w31 ⟨rfl, hb⟩; refine ⟨_, rfl, ?_⟩; have n0_ := Aside0.mk (below_step (by repeat (first | (with_reducible first | exact HB.out | apply below_alloc | apply pw_below_drewN | apply below_drew1) | exact HB.out)) hb); clear HB; have HB := n0_; clear n0_; (try clear hb); (try clear hb2); (try clear hk); (try clear hi)))
                    go_ret3
                    exact ⟨by first | rfl | (simp [errW_none, errW_some] <;> rfl) | (simp [*, errW_none, errW_some] <;> rfl), by repeat (first | (with_reducible first | exact HB.out | apply below_alloc | apply pw_below_drewN | apply below_drew1) | exact HB.out)⟩
    · rw [if_neg c3] at H
      exact absurd H (by simp)

/-! ### wharfref01_Plain: function 77 -/
def wharfref01_Plain.f (a0 : Int) : Option (Bool) := if a0 = 9 then (some true) else (if a0 = 10 then (some true) else (if a0 = 13 then (some true) else (if a0 ≥ 32 then (if a0 = 65534 then (some false) else (some (a0 != 65535))) else (some false))))
set_option maxHeartbeats 8000000 in
set_option maxRecDepth 100000 in
theorem wharfref01_Plain.calls (a0 : Int) (r : Bool) (w : World) (h : wharfref01_Plain.f a0 = some r) :
    Calls Tryd.prog 77 #[.int .i64 a0] w fun e w' => e = .returned (.bool r) ∧ Drawn0 w w' := by
  have H : (if a0 = 9 then (some true) else (if a0 = 10 then (some true) else (if a0 = 13 then (some true) else (if a0 ≥ 32 then (if a0 = 65534 then (some false) else (some (a0 != 65535))) else (some false))))) = some r := h
  clear h
  by_cases c2 : a0 = 9
  · rw [if_pos c2] at H
    have c2b0 : (a0 == 9) = true := beq_iff_eq.mpr c2
    have c2b1 : (a0 != 9) = false := bne_eq_false_iff_eq.mpr c2
    clear c2
    obtain rfl := Option.some.inj H
    go_enter Tryd.func77, Tryd.ntmps77
    go_wp2
    go_ret
    exact ⟨by first | rfl | (simp; done) | (simp [*]; done), by repeat (first | exact Drawn0.refl _ | apply Drawn0.step)⟩
  · rw [if_neg c2] at H
    have c2b0 : (a0 == 9) = false := beq_eq_false_iff_ne.mpr c2
    have c2b1 : (a0 != 9) = true := bne_iff_ne.mpr c2
    by_cases c3 : a0 = 10
    · rw [if_pos c3] at H
      have c3b0 : (a0 == 10) = true := beq_iff_eq.mpr c3
      have c3b1 : (a0 != 10) = false := bne_eq_false_iff_eq.mpr c3
      clear c3
      obtain rfl := Option.some.inj H
      go_enter Tryd.func77, Tryd.ntmps77
      go_wp2
      go_ret
      exact ⟨by first | rfl | (simp; done) | (simp [*]; done), by repeat (first | exact Drawn0.refl _ | apply Drawn0.step)⟩
    · rw [if_neg c3] at H
      have c3b0 : (a0 == 10) = false := beq_eq_false_iff_ne.mpr c3
      have c3b1 : (a0 != 10) = true := bne_iff_ne.mpr c3
      by_cases c4 : a0 = 13
      · rw [if_pos c4] at H
        have c4b0 : (a0 == 13) = true := beq_iff_eq.mpr c4
        have c4b1 : (a0 != 13) = false := bne_eq_false_iff_eq.mpr c4
        clear c4
        obtain rfl := Option.some.inj H
        go_enter Tryd.func77, Tryd.ntmps77
        go_wp2
        go_ret
        exact ⟨by first | rfl | (simp; done) | (simp [*]; done), by repeat (first | exact Drawn0.refl _ | apply Drawn0.step)⟩
      · rw [if_neg c4] at H
        have c4b0 : (a0 == 13) = false := beq_eq_false_iff_ne.mpr c4
        have c4b1 : (a0 != 13) = true := bne_iff_ne.mpr c4
        by_cases c5 : a0 ≥ 32
        · rw [if_pos c5] at H
          have c5b0 : decide (32 ≤ a0) = true := decide_eq_true c5
          clear c5
          by_cases c6 : a0 = 65534
          · rw [if_pos c6] at H
            have c6b0 : (a0 == 65534) = true := beq_iff_eq.mpr c6
            have c6b1 : (a0 != 65534) = false := bne_eq_false_iff_eq.mpr c6
            clear c6
            obtain rfl := Option.some.inj H
            go_enter Tryd.func77, Tryd.ntmps77
            go_wp2
            go_ret
            exact ⟨by first | rfl | (simp; done) | (simp [*]; done), by repeat (first | exact Drawn0.refl _ | apply Drawn0.step)⟩
          · rw [if_neg c6] at H
            have c6b0 : (a0 == 65534) = false := beq_eq_false_iff_ne.mpr c6
            have c6b1 : (a0 != 65534) = true := bne_iff_ne.mpr c6
            obtain rfl := Option.some.inj H
            go_enter Tryd.func77, Tryd.ntmps77
            go_wp2
            go_ret
            exact ⟨by first | rfl | (simp; done) | (simp [*]; done), by repeat (first | exact Drawn0.refl _ | apply Drawn0.step)⟩
        · rw [if_neg c5] at H
          have c5b0 : decide (32 ≤ a0) = false := decide_eq_false c5
          clear c5
          obtain rfl := Option.some.inj H
          go_enter Tryd.func77, Tryd.ntmps77
          go_wp2
          go_ret
          exact ⟨by first | rfl | (simp; done) | (simp [*]; done), by repeat (first | exact Drawn0.refl _ | apply Drawn0.step)⟩

end Go.Proofs.YtnaimienfgpgmaaDoor.Ra
