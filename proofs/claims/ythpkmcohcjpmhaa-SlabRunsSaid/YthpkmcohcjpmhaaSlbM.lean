/- wharflaw21.SlabApart: what its walk needs. -/
import Derived.Test.YthpkmcohcjpmhaaSlbL
import Derived.OwnWalk
import Derived.Laws.OwnMore
import Derived.Deep.AppendLies
set_option linter.unusedVariables false
set_option linter.unusedSimpArgs false
namespace Go.Proofs.Ythpkmcohcjpmhaa.Slb
open Go.RowKit U
variable {gS gB : Nat} {s : S} {w w0 : World}
def st (bs : List (List UInt8)) (wr : Int) : S := ⟨bs, -1, 0, false, wr⟩
/-- A slab of twenty blocks, whatever they hold. -/
def Any0 (w0 : World) (gS gB : Nat) (w : World) : Prop := ∃ bs wr, Stand w0 gS gB (st bs wr) w ∧ bs.length = 20
theorem Any0.below {w' : World} (h : Any0 w0 gS gB w) (hb : Below w.heap.size w w') : Any0 w0 gS gB w' := by
  obtain ⟨bs, wr, h1, h2⟩ := h
  exact ⟨bs, wr, h1.below hb, h2⟩
theorem Any0.low (h : Any0 w0 gS gB w) : Below w0.heap.size w0 w := by
  obtain ⟨bs, wr, h1, h2⟩ := h
  exact h1.low
theorem Any0.drew (h : Any0 w0 gS gB w) : Any0 w0 gS gB w.drew := by
  obtain ⟨bs, wr, h1, h2⟩ := h
  exact ⟨bs, wr, ⟨h1.is.drew, below_drew h1.low, h1.q1, h1.q2⟩, h2⟩
def code (n : Int) : Int := if 0 ≤ n ∧ n < 20 then 0 else 2
def bsW (bs : List (List UInt8)) (n : Int) (l : List UInt8) : List (List UInt8) := if 0 ≤ n ∧ n < 20 then bs.set n.toNat l else bs
theorem bsW_len (bs : List (List UInt8)) (n : Int) (l : List UInt8) : (bsW bs n l).length = bs.length := by unfold bsW; split <;> simp
def WPost (w0 : World) (gS gB : Nat) (bs : List (List UInt8)) (w w' : World) : Prop := (∃ wr, Stand w0 gS gB (st bs wr) w') ∧ OwnKept gS gB w w'
theorem write_st {bs : List (List UInt8)} {wr : Int} (h : Stand w0 gS gB (st bs wr) w) (hl : bs.length = 20) (n : Int) (b : ByteArray) (hb : b.size = 64) :
    Calls Try.prog 12 #[P gS, .int .i64 n, .string b] w fun e w' => e = .returned (.int .i64 (code n)) ∧ WPost w0 gS gB (bsW bs n b.data.toList) w w' := by
  by_cases hn : 0 ≤ n ∧ n < 20
  · obtain ⟨k, rfl⟩ : ∃ k : Nat, n = (k : Int) := ⟨n.toNat, by omega⟩
    have := Write_wrap h.is k (by show k < bs.length; omega) rfl b hb (show (-1 : Int) ≠ 0 by decide) (show (-1 : Int) ≤ -1 by decide) (show (-1 : Int) ≤ 9223372036854775807 by decide)
    refine this.mono fun e w' hp => ?_
    obtain ⟨hp, ho⟩ := hp
    obtain ⟨h1, h2⟩ := h.post hp
    refine ⟨by rw [h1]; unfold code; rw [if_pos hn], ⟨wrap64 (wr + 1), ?_⟩, ho⟩
    unfold bsW
    rw [if_pos hn, Int.toNat_natCast]
    have hw := wr_full bs h.is.len k b.data.toList (by rw [U.len_data]; exact hb)
    rw [show (st bs wr).bs = bs from rfl, hw] at h2
    exact h2
  · have hg : beg (st bs wr) n = 2 := by
      unfold beg st
      rw [if_neg (by simp), if_neg (by simp only [hl]; exact hn)]
    have := Write_begin h.is n b (by rw [hg]; decide)
    rw [hg] at this
    refine this.mono fun e w' hp => ?_
    obtain ⟨h1, rfl⟩ := hp
    refine ⟨by rw [h1]; unfold code; rw [if_neg hn], ⟨wr, ?_⟩, fun _ _ _ _ _ _ _ _ h => h⟩
    unfold bsW
    rw [if_neg hn]
    exact h
theorem write_in (x : U.In (Any0 w0 gS gB)) (n : Int) (b : ByteArray) (hb : b.size = 64) :
    Calls Try.prog 12 #[P gS, .int .i64 n, .string b] x.w fun e w' => e = .returned (.int .i64 (code n)) ∧ ∃ y : U.In (Any0 w0 gS gB), w' = y.w := by
  obtain ⟨bs, wr, h1, h2⟩ := x.h
  refine (write_st h1 h2 n b hb).mono fun e w' hp => ?_
  obtain ⟨h3, ⟨wr', h4⟩, _⟩ := hp
  exact ⟨h3, ⟨w', _, wr', h4, by rw [bsW_len]; exact h2⟩, rfl⟩
theorem blkB_size (b : ByteArray) : (⟨(blk b.data.toList).toArray⟩ : ByteArray).size = 64 := by
  rw [← U.len_data]; exact blk_len _
theorem read_st {bs : List (List UInt8)} {wr : Int} (h : Stand w0 gS gB (st bs wr) w) (k : Nat) (hk : k < bs.length) :
    Calls Try.prog 22 #[P gS, .int .i64 (k : Int)] w fun e w' => e = .returned (.tuple #[.string ⟨(bs[k]).toArray⟩, .int .i64 0]) ∧ w = w' := Read_ok h.is k hk rfl
def strs (bs : List (List UInt8)) : List Value := bs.map fun b => Value.string ⟨b.toArray⟩
theorem infoStr : (Try.prog.info? 9).map (fun i => (i.zero, i.size, i.bytes)) = some (some (.string ⟨#[]⟩), 1, 16) := by kernel_rfl
theorem own_below {B : Nat} {e : TypeId} {k : Nat} {v : Value} {n : Nat} {xs : List Value} {w w' : World} (h : w.ownsRow B e k v n xs) (hb : Below w.heap.size w w') : w'.ownsRow B e k v n xs :=
  h.kept (row := none) ⟨hb.os, hb.tape, hb.output, hb.size, fun j hj _ => hb.block j hj⟩ (by cases hv : v.ownBlock <;> simp)
/-- Behind an append to a row of the call's own. -/
theorem Stand.grown {w' : World} {B : Nat} {row : Option Nat} (h : Stand w0 gS gB s w) (hg : w.grownBy w' row) (h1 : gS < B) (h2 : gB < B) (hr : ∀ k, row = some k → B ≤ k) (h0 : w0.heap.size ≤ B) : Stand w0 gS gB s w' := by
  refine ⟨⟨?_, ?_, h.is.ne, h.is.len, h.is.few⟩, h.low.grown hg h.low.size (fun k hk => Nat.le_trans h0 (hr k hk)), h.q1, h.q2⟩
  · exact (hg.block gS h.is.hs.lt (fun e => by have := hr _ e.symm; omega)).trans h.is.hs
  · exact (hg.block gB h.is.hb.lt (fun e => by have := hr _ e.symm; omega)).trans h.is.hb
theorem bsW_eq (bs : List (List UInt8)) (hl : bs.length = 20) (n : Int) (l : List UInt8) (k : Nat) (hk : k < (bsW bs n l).length) (h : (k : Int) = n) : (bsW bs n l)[k] = l := by
  subst h
  have : bsW bs (k : Int) l = bs.set k l := by unfold bsW; rw [if_pos (by rw [bsW_len] at hk; omega), Int.toNat_natCast]
  simp only [this, List.getElem_set_self]
theorem bsW_ne (bs : List (List UInt8)) (n : Int) (l : List UInt8) (k : Nat) (hk : k < (bsW bs n l).length) (hk2 : k < bs.length) (h : (k : Int) ≠ n) : (bsW bs n l)[k] = bs[k] := by
  by_cases hn : 0 ≤ n ∧ n < 20
  · have : bsW bs n l = bs.set n.toNat l := by unfold bsW; rw [if_pos hn]
    simp only [this]
    rw [List.getElem_set_ne (by omega)]
  · have : bsW bs n l = bs := by unfold bsW; rw [if_neg hn]
    simp only [this]
theorem strs_at (bs : List (List UInt8)) (k : Nat) (hk : k < bs.length) : (strs bs)[k]? = some (.string ⟨(bs[k]).toArray⟩) := by unfold strs; rw [List.getElem?_map, List.getElem?_eq_getElem hk]; rfl
theorem strs_next (bs : List (List UInt8)) (k : Nat) (hk : k < bs.length) : (strs bs).take (k + 1) = (strs bs).take k ++ [.string ⟨(bs[k]).toArray⟩] := by rw [List.take_add_one, strs_at bs k hk]; rfl
theorem new_cell (w : World) (T : TypeId) (u : Value) (j : Nat) (v : Value) (h : [u][j]? = some v) : (w.alloc (.cells #[u] T)).cell? ((⟨w.heap.size, 0, none⟩ : Addr).add j) = some v := by
  match j, h with
  | 0, h =>
    have e : u = v := by simpa using h
    subst e
    have ha : (⟨w.heap.size, 0, none⟩ : Addr).add 0 = ⟨w.heap.size, 0, none⟩ := by unfold Addr.add; split <;> simp_all
    rw [ha]
    exact (At.new w T #[u]).cell 0 u rfl
  | j + 1, h => simp at h
theorem mkB (b : ByteArray) : (⟨b.data.toList.toArray⟩ : ByteArray) = b := rfl
theorem code_ways (n : Int) : (n < 0 ∧ code n = 2) ∨ (0 ≤ n ∧ n < 20 ∧ code n = 0) ∨ (20 ≤ n ∧ code n = 2) := by unfold code; split <;> omega
end Go.Proofs.Ythpkmcohcjpmhaa.Slb
