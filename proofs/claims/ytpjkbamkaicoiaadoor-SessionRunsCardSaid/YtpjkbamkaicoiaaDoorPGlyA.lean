/- Contracts of functions of this translation, and what they come to; what is not used is left out. -/
import Derived.Deep.QuietTactic
import Derived.BigQuiet
import Derived.LoopTactic
import Derived.Outline
import Derived.Laws.RangeAny
import Derived.Lib.OthersKept
import Derived.Test.YtpjkbamkaicoiaaDoorPGlyP
import Derived.Test.YtpjkbamkaicoiaaDoorPUtil

section
/- glyph's functions at this translation: First, width, plain, Len, Check, Fold: what they return, for every text. -/
set_option linter.unusedVariables false
set_option linter.unusedSimpArgs false
namespace Go.Proofs.YtpjkbamkaicoiaaDoor.Gly
open Go.RowKit GlyP

theorem width_any (c : Int) (n : Nat) (hn : c = (n : Int)) (w : World) :
    Calls Tryd.prog 81 #[.int .i64 c] w fun e w' => e = .returned (.int .i64 (wid n : Int)) ∧ w = w' := by
  have H := Lib.hid hn
  have h0 : 0 ≤ c := by omega
  by_cases h1 : c < 128
  · have hw : wid n = 1 := by unfold wid; rw [if_pos (by omega)]
    have HW := Lib.hid hw; clear hw hn
    go_enter Tryd.func81, Tryd.ntmps81
    go_wp2
    go_ret
    exact ⟨by rw [HW.out]; rfl, rfl⟩
  · by_cases h2 : c < 2048
    · have hw : wid n = 2 := by unfold wid; rw [if_neg (by omega), if_pos (by omega)]
      have HW := Lib.hid hw; clear hw hn
      go_enter Tryd.func81, Tryd.ntmps81
      go_wp2
      go_ret
      exact ⟨by rw [HW.out]; rfl, rfl⟩
    · by_cases h3 : c < 65536
      · have hw : wid n = 3 := by unfold wid; rw [if_neg (by omega), if_neg (by omega), if_pos (by omega)]
        have HW := Lib.hid hw; clear hw hn
        go_enter Tryd.func81, Tryd.ntmps81
        go_wp2
        go_ret
        exact ⟨by rw [HW.out]; rfl, rfl⟩
      · have hw : wid n = 4 := by unfold wid; rw [if_neg (by omega), if_neg (by omega), if_neg (by omega)]
        have HW := Lib.hid hw; clear hw hn
        go_enter Tryd.func81, Tryd.ntmps81
        go_wp2
        go_ret
        exact ⟨by rw [HW.out]; rfl, rfl⟩

theorem get_by (s : ByteArray) (i : Nat) : (s.get! i).toNat = by_ s.data.toList i := by
  unfold by_
  rcases Nat.lt_or_ge i s.size with h | h
  · rw [List.getD_eq_getElem?_getD, List.getElem?_eq_getElem (by rw [U.len_data]; exact h)]
    simp [ByteArray.get!, getElem!_pos, h]
  · rw [List.getD_eq_getElem?_getD, List.getElem?_eq_none (by rw [U.len_data]; exact h)]
    have : s.data[i]? = none := Array.getElem?_eq_none (show s.data.size ≤ i from h)
    simp [ByteArray.get!, getElem!_def, this]
    rfl
theorem dec_model (s : ByteArray) : Utf8.decode s 0 = dec s.data.toList := by
  rw [Lib.decode_at, get_by, get_by, get_by, get_by, dec, U.len_data]; rfl

theorem below_iter (w : World) (s : ByteArray) : Below w.heap.size w (w.iter s 0) := (Below.refl _ w).alloc (Nat.le_refl _) _
theorem cut3 (s : ByteArray) (h : 3 ≤ s.size) : ((s.extract 0 3).toList == [239, 191, 189]) = decide (by_ s.data.toList 0 = 239 ∧ by_ s.data.toList 1 = 191 ∧ by_ s.data.toList 2 = 189) := by
  rw [Lib.toList_data, Lib.extract_data]
  have hl := U.len_data s
  revert hl
  generalize s.data.toList = l
  intro hl
  match l, hl with
  | a :: b :: c :: r, _ =>
    rw [Bool.eq_iff_iff]
    simp [by_, ← UInt8.toNat_inj]
  | [], hl => simp at hl; omega
  | [_], hl => simp at hl; omega
  | [_, _], hl => simp at hl; omega
/-- What First gives, as a value. -/
def firstV : Option (Nat × Nat) → Value
  | none => .tuple #[.int .i64 0, .int .i64 0, .int .i64 10]
  | some (c, n) => .tuple #[.int .i64 c, .int .i64 n, .int .i64 0]

set_option maxHeartbeats 1000000 in
theorem First_any (s : ByteArray) (w : World) :
    Calls Tryd.prog 70 #[.string s] w fun e w' => e = .returned (firstV (first s.data.toList)) ∧ Below w.heap.size w w' := by
  rcases Nat.eq_zero_or_pos s.size with h0 | hp
  · have hf : first s.data.toList = none := by unfold first; rw [U.len_data, if_pos h0]
    have HF := Lib.hid hf; clear hf
    have hnx : ∀ ty, (Instr.next (.pointer (some ⟨w.heap.size, 0, none⟩)) true ty).run Tryd.prog (w.iter s 0) = _ := fun ty => Lib.run_next_end_at (w.iter s 0) w.heap.size s 0 ty (World.iter_heap w s 0) (by omega)
    go_enter Tryd.func70, Tryd.ntmps70
    go_wp2
    refine wp_loop_rounds 1 ?_
    rw [rounds_succ]
    go_wp2
    go_ret3
    exact ⟨by rw [HF.out]; rfl, below_iter w s⟩
  · have hf := dec_facts s.data.toList (by rw [U.len_data]; exact hp)
    have hw := dec_wrong s.data.toList (by rw [U.len_data]; exact hp)
    have hnx : ∀ ty, (Instr.next (.pointer (some ⟨w.heap.size, 0, none⟩)) true ty).run Tryd.prog (w.iter s 0) = _ := fun ty => Lib.run_next_any_at (w.iter s 0) w.heap.size s 0 ty (World.iter_heap w s 0) hp
    rw [dec_model] at hnx
    have hfirst : first s.data.toList = if (dec s.data.toList).1 = 65533 ∧ (dec s.data.toList).2 = 1 then none else some (dec s.data.toList) := by
      unfold first; rw [U.len_data, if_neg (by omega)]
    obtain ⟨c, hc⟩ : ∃ c, c = (dec s.data.toList).1 := ⟨_, rfl⟩
    obtain ⟨n, hn⟩ : ∃ n, n = (dec s.data.toList).2 := ⟨_, rfl⟩
    rw [← hc, ← hn] at hnx hf hfirst hw
    have hpair : dec s.data.toList = (c, n) := by rw [hc, hn]
    rw [hpair] at hfirst
    clear hc hn hpair
    have HF := Lib.hid hfirst; clear hfirst
    have HW := Lib.hid hw; clear hw
    have HWD := Lib.hid hf.2.2.2.2
    have hb1 := hf.1
    have hb2 := hf.2.2.2.1
    clear hf
    by_cases hq : c = 65533
    · have hq2 : ((c : Int) == 65533) = true := by simp; omega
      have HQ := Lib.hid hq; clear hq
      go_enter Tryd.func70, Tryd.ntmps70
      go_wp2
      refine wp_loop_rounds 1 ?_
      rw [rounds_succ]
      go_wp2_with fail
      refine (width_any _ c rfl _).mono ?_
      rintro e w1 ⟨rfl, rfl⟩
      have hwid : wid c = 3 := by rw [HQ.out]; rfl
      rw [hwid]
      clear hwid
      by_cases h3 : s.size < 3
      · have hne : first s.data.toList = none := by
          have := (HW.out HQ.out).2 (by rw [U.len_data]; omega)
          rw [HF.out, if_pos ⟨HQ.out, this⟩]
        have HN := Lib.hid hne; clear hne
        go_wp2
        go_ret3
        exact ⟨by rw [HN.out]; rfl, Lib.below_iterAt (below_iter w s) (Nat.le_refl _) _ _⟩
      · have hcut := cut3 s (by omega)
        cases hz : ((s.extract 0 3).toList == [239, 191, 189]) with
        | true =>
          rw [hz] at hcut
          have hne : first s.data.toList = some (c, 3) := by
            have h1 : ¬ n = 1 := fun h => (HW.out HQ.out).1 h ⟨by rw [U.len_data]; omega, (of_decide_eq_true hcut.symm)⟩
            have h2 := HWD.out (fun h => h1 h.2)
            rw [HF.out, if_neg (fun h => h1 h.2), h2, HQ.out]; rfl
          have HN := Lib.hid hne; clear hne
          clear hcut
          go_wp2
          go_ret3
          exact ⟨by rw [HN.out]; rfl, Lib.below_iterAt (below_iter w s) (Nat.le_refl _) _ _⟩
        | false =>
          rw [hz] at hcut
          have hne : first s.data.toList = none := by
            have := (HW.out HQ.out).2 (fun h => absurd h.2 (of_decide_eq_false hcut.symm))
            rw [HF.out, if_pos ⟨HQ.out, this⟩]
          have HN := Lib.hid hne; clear hne
          clear hcut
          go_wp2
          go_ret3
          exact ⟨by rw [HN.out]; rfl, Lib.below_iterAt (below_iter w s) (Nat.le_refl _) _ _⟩
    · have hq2 : ((c : Int) == 65533) = false := by simp; omega
      have hne : first s.data.toList = some (c, n) := by rw [HF.out, if_neg (fun h => hq h.1)]
      have hwd : n = wid c := HWD.out (fun h => hq h.1)
      have HD := Lib.hid hwd; clear hwd
      have HN := Lib.hid hne; clear hne
      have HQ := Lib.hid hq; clear hq
      go_enter Tryd.func70, Tryd.ntmps70
      go_wp2
      refine wp_loop_rounds 1 ?_
      rw [rounds_succ]
      go_wp2_with fail
      refine (width_any _ c rfl _).mono ?_
      rintro e w1 ⟨rfl, rfl⟩
      go_wp2
      go_ret3
      exact ⟨by rw [HN.out, HD.out]; rfl, Lib.below_iterAt (below_iter w s) (Nat.le_refl _) _ _⟩

theorem plain_any (c : Int) (n : Nat) (hn : c = (n : Int)) (w : World) :
    Calls Tryd.prog 71 #[.int .i64 c] w fun e w' => e = .returned (.bool (plain n)) ∧ w = w' := by
  have H := Lib.hid hn
  by_cases h1 : c = 9 ∨ c = 10 ∨ c = 13 ∨ c = 65534 ∨ c = 65535
  · rcases h1 with rfl | rfl | rfl | rfl | rfl
    all_goals
      go_enter Tryd.func71, Tryd.ntmps71
      go_wp2
      go_ret
      refine ⟨?_, rfl⟩
    · obtain rfl : n = 9 := by have := H.out; omega
      rfl
    · obtain rfl : n = 10 := by have := H.out; omega
      rfl
    · obtain rfl : n = 13 := by have := H.out; omega
      rfl
    · obtain rfl : n = 65534 := by have := H.out; omega
      rfl
    · obtain rfl : n = 65535 := by have := H.out; omega
      rfl
  · have a1 : (c == 9) = false := by rw [beq_eq_false_iff_ne]; omega
    have a2 : (c == 10) = false := by rw [beq_eq_false_iff_ne]; omega
    have a3 : (c == 13) = false := by rw [beq_eq_false_iff_ne]; omega
    have a4 : (c == 65534) = false := by rw [beq_eq_false_iff_ne]; omega
    have a5 : (c == 65535) = false := by rw [beq_eq_false_iff_ne]; omega
    have hp : plain n = decide (32 ≤ c) := by
      unfold plain
      rw [show (n == 9) = false from by rw [beq_eq_false_iff_ne]; omega, show (n == 10) = false from by rw [beq_eq_false_iff_ne]; omega, show (n == 13) = false from by rw [beq_eq_false_iff_ne]; omega,
        show (n != 65534) = true from by rw [bne_iff_ne]; omega, show (n != 65535) = true from by rw [bne_iff_ne]; omega]
      simp; omega
    have HP := Lib.hid hp; clear hp h1 hn
    go_enter Tryd.func71, Tryd.ntmps71
    go_wp2
    go_ret
    exact ⟨by rw [HP.out]; rfl, rfl⟩

/-- Some number, and whether it is a text. -/
def LenPost (b : Bool) (w : World) (e : Ending) (w' : World) : Prop := (∃ n : Int, e = .returned (.tuple #[.int .i64 n, .int .i64 (if b then 0 else 10)])) ∧ Below w.heap.size w w'

set_option maxHeartbeats 1000000 in
theorem Len_any (s : ByteArray) (hs : s.size ≤ 140737488355328) (w : World) :
    Calls Tryd.prog 59 #[.string s] w (LenPost (isText s.data.toList) w) := by
  go_enter Tryd.func59, Tryd.ntmps59
  go_wp2_with fail
  go_loopw [0, 2] (fun t q wr => ∃ (r : ByteArray) (k : Nat), t = .string r ∧ q = .int .i64 k ∧ k + r.size ≤ s.size ∧ Hid (isText s.data.toList = isText r.data.toList) ∧ Below w.heap.size w wr) (fun t _ _ => match t with | .string r => r.size | _ => 0)
  case atStart => exact ⟨s, 0, rfl, rfl, by omega, Lib.hid rfl, Below.refl _ w⟩
  case round =>
    obtain ⟨r, k, rfl, rfl, hk, HT, hbw⟩ := hrel
    rcases Nat.eq_zero_or_pos r.size with h0 | hp
    · have h1 : r.toList = [] := U.toList_nil r h0
      have h2 : isText s.data.toList = true := by rw [HT.out, ← Lib.toList_data, h1]; rfl
      have H2 := Lib.hid h2; clear h2
      have H0 := Lib.hid h0; clear h0
      go_wp2
      go_ret2
      exact ⟨⟨_, by rw [H2.out]; rfl⟩, hbw⟩
    · have h1 : r.toList.isEmpty = false := U.isEmpty_false r hp
      have hne : r.data.toList ≠ [] := by rw [← Lib.toList_data]; exact List.isEmpty_eq_false_iff.1 h1
      have hst := Lib.hid (isText_step _ hne)
      clear hne
      go_wp2_with fail
      refine (First_any r _).mono ?_
      rintro e w1 ⟨rfl, hb1⟩
      have hbw1 := U.below_then hbw hb1
      clear hb1 hbw
      cases ho : first r.data.toList with
      | none =>
        rw [show firstV none = .tuple #[.int .i64 0, .int .i64 0, .int .i64 10] from rfl]
        have h2 : isText s.data.toList = false := by rw [HT.out, hst.out, ho]
        have H2 := Lib.hid h2; clear h2 ho
        go_wp2
        go_ret2
        exact ⟨⟨_, by rw [H2.out]; rfl⟩, hbw1⟩
      | some x =>
        obtain ⟨c, n⟩ := x
        have hfs := first_some _ _ _ ho
        rw [U.len_data] at hfs
        have hn1 := hfs.1
        have hn2 := hfs.2.1
        rw [show firstV (some (c, n)) = .tuple #[.int .i64 c, .int .i64 n, .int .i64 0] from rfl]
        have HO := Lib.hid ho; clear ho hfs
        go_wp2_with fail
        refine (plain_any _ c rfl _).mono ?_
        rintro e w2 ⟨rfl, rfl⟩
        cases hpl : plain c with
        | false =>
          have h2 : isText s.data.toList = false := by rw [HT.out, hst.out, HO.out]; simp [hpl]
          have H2 := Lib.hid h2; clear h2 hpl
          go_wp2
          go_ret2
          exact ⟨⟨_, by rw [H2.out]; rfl⟩, hbw1⟩
        | true =>
          have h2 : isText s.data.toList = isText (r.extract n r.size).data.toList := by rw [HT.out, hst.out, HO.out, U.drop_data]; simp [hpl]
          have H2 := Lib.hid h2; clear h2 hpl
          have hsz : (r.extract n r.size).size + n = r.size := by rw [ByteArray.size_extract]; omega
          have hsz2 : (r.extract n r.size).size + n ≤ r.size := by omega
          have hsz3 : r.size ≤ (r.extract n r.size).size + n := by omega
          clear hsz
          go_wp2
          go_roundw
          case rel => exact ⟨r.extract n r.size, k + 1, rfl, by go_num, by omega, H2, hbw1⟩
          case measure => simp; omega

theorem Check_any (s : ByteArray) (hs : s.size ≤ 140737488355328) (w : World) :
    Calls Tryd.prog 39 #[.string s] w fun e w' => e = .returned (.int .i64 (if isText s.data.toList then 0 else 10)) ∧ Below w.heap.size w w' := by
  obtain ⟨v, hv⟩ : ∃ v : Int, v = if isText s.data.toList then 0 else 10 := ⟨_, rfl⟩
  have HL := Len_any s hs w
  unfold LenPost at HL
  rw [← hv] at HL ⊢
  have HL2 := Lib.hid HL
  clear HL hv
  go_enter Tryd.func39, Tryd.ntmps39
  go_wp2_with fail
  refine HL2.out.mono ?_
  rintro e w1 ⟨⟨n, rfl⟩, hb⟩
  go_wp2
  go_ret
  exact ⟨rfl, hb⟩

/-- A byte without its great letter. -/
def low (c : UInt8) : UInt8 := if 65 ≤ c ∧ c ≤ 90 then c + 32 else c

theorem low_all : ∀ n : Fin 256, if ((n.val : Int) - 65) % 256 < 26 then Go.bits .or .u8 (n.val : Int) 32 = ((low (UInt8.ofNat n.val)).toNat : Int) else low (UInt8.ofNat n.val) = UInt8.ofNat n.val := by decide +kernel
theorem low_yes (c : UInt8) (h : ((c.toNat : Int) - 65) % 256 < 26) : Go.bits .or .u8 (c.toNat : Int) 32 = ((low c).toNat : Int) := by
  have := low_all ⟨c.toNat, c.toNat_lt⟩
  rw [if_pos h] at this
  simpa using this
theorem low_no (c : UInt8) (h : ¬ ((c.toNat : Int) - 65) % 256 < 26) : low c = c := by
  have := low_all ⟨c.toNat, c.toNat_lt⟩
  rw [if_neg h] at this
  simpa using this

set_option maxHeartbeats 1000000 in
theorem Fold_any (s : ByteArray) (hs : s.size ≤ 140737488355328) (w : World) :
    Calls Tryd.prog 67 #[.string s] w fun e w' => e = .returned (.string ⟨(s.data.toList.map low).toArray⟩) ∧ Below w.heap.size w w' := by
  have hcv := fun (w : World) => Lib.run_convert_string_bytes (P := Tryd.prog) w 9 79 5 s Tryd.underlying9 Tryd.underlying79 Tryd.underlying5
  go_enter Tryd.func67, Tryd.ntmps67
  go_wp2
  clear hcv
  go_loopw [10] (fun i wr => ∃ k : Nat, k ≤ s.size ∧ i = .int .i64 k ∧ Hid (U.BytesAt w.heap.size ((s.data.toList.take k).map low ++ s.data.toList.drop k) wr) ∧ Below w.heap.size w wr) (fun i _ => s.size - (intOf i).toNat)
  case atStart => exact ⟨0, by omega, rfl, Lib.hid (U.BytesAt.new w s), U.below_bytesWorld w _ s⟩
  case round =>
    obtain ⟨k, hk, rfl, HB, hbw⟩ := hrel
    have hl : ((s.data.toList.take k).map low ++ s.data.toList.drop k).length = s.size := by
      rw [List.length_append, List.length_map, List.length_take, List.length_drop, U.len_data]; omega
    by_cases hlt : k < s.size
    · have hat := HB.out k (by omega)
      have hg : ((s.data.toList.take k).map low ++ s.data.toList.drop k)[k]'(by omega) = s[k] := by
        rw [List.getElem_append_right (by rw [List.length_map, List.length_take, U.len_data]; omega)]
        simp [U.len_data, Nat.min_eq_left hk]
        rfl
      rw [hg] at hat
      obtain ⟨hc, hf⟩ := hat
      have hnext : (s.data.toList.take (k + 1)).map low ++ s.data.toList.drop (k + 1) = ((s.data.toList.take k).map low ++ s.data.toList.drop k).set k (low s[k]) := by
        rw [List.set_append_right _ _ (by rw [List.length_map, List.length_take, U.len_data]; omega), U.u8_at s k hlt, List.length_map, List.length_take, U.len_data, Nat.min_eq_left hk, Nat.sub_self, List.set_cons_zero,
          List.take_succ_eq_append_getElem (by rw [U.len_data]; exact hlt), List.map_append, List.append_assoc]
        rfl
      have HN := Lib.hid hnext
      have hsame : low s[k] = s[k] → ((s.data.toList.take k).map low ++ s.data.toList.drop k).set k (low s[k]) = (s.data.toList.take k).map low ++ s.data.toList.drop k := by
        intro h; rw [h, ← hg, List.set_getElem_self]
      have HG := Lib.hid hsame
      clear hsame
      clear hg hl hnext
      by_cases hq : ((s[k].toNat : Int) - 65) % 256 < 26
      · have hy := low_yes s[k] hq
        have HY := Lib.hid hy; clear hy
        go_wp2
        go_roundw
        case rel => exact ⟨k + 1, by omega, by go_num, Lib.hid (by rw [HN.out]; exact HB.out.set k _ _ (by rw [HY.out])), hbw.setCell (p := ⟨w.heap.size, k, none⟩) (Nat.le_refl _) _⟩
        case measure => simp [intOf]; omega
      · have hy := low_no s[k] hq
        have HY := Lib.hid hy; clear hy
        go_wp2
        go_roundw
        case rel => exact ⟨k + 1, by omega, by go_num, Lib.hid (by rw [HN.out, HG.out HY.out]; exact HB.out), hbw⟩
        case measure => simp [intOf]; omega
    · have hkk : k = s.size := by omega
      have hB := HB.out
      rw [hkk, ← U.len_data, List.take_length, List.drop_length, List.append_nil] at hB
      have hcv := hB.text (P := Tryd.prog) 79 9 5 (grownCap w s.size 0 5) Tryd.underlying79 Tryd.underlying5 Tryd.underlying9
      rw [List.length_map, U.len_data] at hcv
      clear hB hl hkk HB
      go_wp2
      go_ret
      exact ⟨rfl, hbw⟩

end Go.Proofs.YtpjkbamkaicoiaaDoor.Gly
end
