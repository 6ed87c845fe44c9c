/- Contracts of functions of this translation, and what they come to; what is not used is left out. -/
import Derived.Deep.LoopGhost
import Derived.Test.YtofdiilfedjhkaaDoorKStrs
import Derived.Test.YtofdiilfedjhkaaDoorKShelf
import Derived.Test.YtofdiilfedjhkaaDoorKUtil
import Derived.Test.YtofdiilfedjhkaaDoorKBld

section
/- strings.ReplaceAll at one byte that is taken out, at this translation: the text without that byte. -/
set_option linter.unusedVariables false
set_option linter.unusedSimpArgs false
namespace Go.Proofs.YtofdiilfedjhkaaDoor.Rep
open Go.RowKit Go.Shelf Strs

/-- A text without a byte. -/
def without (c : UInt8) (l : List UInt8) : List UInt8 := l.filter (· != c)
theorem without_no (c : UInt8) (l : List UInt8) (h : Lib.countByte l c = 0) : without c l = l := by
  unfold without
  rw [List.filter_eq_self]
  intro x hx
  rw [bne_iff_ne]
  rintro rfl
  unfold Lib.countByte at h
  rw [List.count_eq_zero] at h
  exact h hx
theorem without_at (c : UInt8) (A B : List UInt8) (hA : ∀ x ∈ A, x ≠ c) : without c (A ++ c :: B) = A ++ without c B := by
  unfold without
  rw [List.filter_append, List.filter_cons]
  simp
  intro x hx; exact hA x hx
theorem foreB_ne (c : UInt8) (l : List UInt8) : ∀ x ∈ foreB c l, x ≠ c := by
  intro x hx
  have := List.all_takeWhile (p := fun y => y != c) (l := l)
  rw [List.all_eq_true] at this
  have h := this x hx
  rw [bne_iff_ne] at h
  exact h
theorem count_at (c : UInt8) (A B : List UInt8) (hA : ∀ x ∈ A, x ≠ c) : Lib.countByte (A ++ c :: B) c = Lib.countByte B c + 1 := by
  unfold Lib.countByte
  rw [List.count_append, List.count_cons]
  have : List.count c A = 0 := by rw [List.count_eq_zero]; intro h; exact hA c h rfl
  rw [this]; simp
theorem count_le (c : UInt8) (l : List UInt8) : Lib.countByte l c ≤ l.length := List.count_le_length

set_option maxHeartbeats 4000000 in
set_option maxRecDepth 100000 in
theorem Replace_some (s o nw : ByteArray) (c : UInt8) (hs : s.size ≤ 68719476736) (HC : Hid (∀ w, Calls Tryd.prog 28 #[.string s, .string o] w fun e w' => e = .returned (.int .i64 (Lib.countByte s.data.toList c)) ∧ w' = w))
    (HI : Hid (∀ t w, Calls Tryd.prog 30 #[.string t, .string o] w fun e w' => e = .returned (.int .i64 (Lib.indexByte t.data.toList c)) ∧ w' = w)) (ho : o.size = 1) (hn : nw.size = 0)
    (K : Nat) (hK : Lib.countByte s.data.toList c = K) (h0 : 0 < K) (w : World) :
    Calls Tryd.prog 27 #[.string s, .string o, .string nw, .int .i64 (-1)] w fun e w' => e = .returned (.string ⟨(without c s.data.toList).toArray⟩) ∧ Below w.heap.size w w' := by
  have hKs : K ≤ s.size := by rw [← hK, ← U.len_data]; exact count_le c _
  have hbeq : (o.toList == nw.toList) = false := by
    rw [beq_eq_false_iff_ne]; intro h
    have := congrArg List.length h
    rw [Lib.toList_data, Lib.toList_data, U.len_data, U.len_data] at this; omega
  have hcz : ((K : Int) == 0) = false := beq_eq_false_iff_ne.2 (by omega)
  have hod : decide (0 < o.size) = true := decide_eq_true (by omega)
  have hnwl : nw.data.toList = [] := List.eq_nil_of_length_eq_zero (by rw [U.len_data]; exact hn)
  have hga := Lib.grow_arg s.size K nw.size o.size (by omega) (by rw [ho]; omega) (by rw [hn]; omega)
  have hz1 : s.size + K * nw.size ≤ 281474976710656 := by rw [hn]; omega
  have HK := Lib.hid hK
  have HO := Lib.hid ho
  have HN := Lib.hid hn
  have HNW := Lib.hid hnwl
  have b4 : (0 : Int) < (o.size : Int) := by omega
  clear hK ho hn hnwl
  go_enter Tryd.func27, Tryd.ntmps27
  go_wp2_with fail
  refine (HC.out _).mono ?_
  rintro e w0 ⟨rfl, hw⟩
  rw [hw, HK.out]
  clear hw
  go_wp2_with fail
  rw [hga]
  refine (Tryd.Builder_Grow_fresh w.heap.size w.heap.size _ _ (Nat.le_refl _) (heap_alloc_new w _) (by simp) (by omega)).mono ?_
  rintro e w1 ⟨rfl, hb0, hb1⟩
  have H1 := Lib.hid (Lib.IsBuilderF.of (Or.inr hb0 : Lib.IsBuilder 68 5 w.heap.size w.heap.size (Lib.byteCells []) w1))
  have Hb1 := Lib.hid (((Below.refl w.heap.size w).alloc (Nat.le_refl _) _).trans hb1)
  clear hb0 hb1 hga
  go_wp2_with fail
  go_loopg [11, 53] K (fun g s11 s53 wx => ∃ (i start : Nat) (acc : List UInt8), s53 = .int .i64 i ∧ s11 = .int .i64 start ∧ i + g = K ∧ start ≤ s.size ∧
      Hid (Bld.Is w.heap.size w.heap.size (Lib.byteCells acc) wx) ∧ Hid (Below w.heap.size w wx) ∧ Hid (acc ++ without c (s.data.toList.drop start) = without c s.data.toList) ∧
      Hid (Lib.countByte (s.data.toList.drop start) c = g) ∧ acc.length ≤ start)
  case atStart => exact ⟨0, 0, [], rfl, rfl, by omega, Nat.zero_le _, H1, Hb1, Lib.hid rfl, HK, by simp⟩
  case round =>
    obtain ⟨i, start, acc, rfl, rfl, hig, hst, HB, HW, HR, HG, hbd⟩ := hrel
    have hBw : w.heap.size ≤ wr.heap.size := HW.out.size
    have c1 : (0 : Int) ≤ (start : Int) := by omega
    have c2 : (start : Int) ≤ (s.size : Int) := by omega
    cases gk with
    | zero =>
      have hiK : ¬ ((i : Int) < (K : Int)) := by omega
      go_wp2_with fail
      refine (Bld.put_str w.heap.size w.heap.size acc (s.data.toList.drop start) _ (by rw [Lib.extract_to_end]) wr HB.out (by rw [List.length_drop, U.len_data]; omega) hBw).mono ?_
      rintro e w3 ⟨rfl, h3, hb3, _⟩
      have hfin : acc ++ s.data.toList.drop start = without c s.data.toList := by rw [← HR.out, without_no c _ HG.out]
      rw [hfin] at h3
      have H3 := Lib.hid h3
      have Hb3 := Lib.hid (HW.out.trans hb3)
      have hBw3 : w.heap.size ≤ w3.heap.size := Hb3.out.size
      clear h3 hb3 hfin
      go_wp2_with fail
      refine (Bld.text w.heap.size w.heap.size _ w3 H3.out hBw3).mono ?_
      rintro e w5 ⟨rfl, hb5⟩
      have Hb5 := Lib.hid (Hb3.out.trans hb5)
      clear hb5
      go_wp2
      go_ret
      exact ⟨rfl, Hb5.out⟩
    | succ g =>
      have hiK : (i : Int) < (K : Int) := by omega
      rcases parts c (s.data.toList.drop start) with ⟨p1, p2, p3⟩ | ⟨p1, _⟩
      · obtain ⟨A, hA⟩ : ∃ A, A = foreB c (s.data.toList.drop start) := ⟨_, rfl⟩
        obtain ⟨B, hB⟩ : ∃ B, B = aftB c (s.data.toList.drop start) := ⟨_, rfl⟩
        have hAne := foreB_ne c (s.data.toList.drop start)
        rw [← hA] at p2 p3 hAne
        rw [← hB] at p3
        obtain ⟨j, hj⟩ : ∃ j, j = A.length := ⟨_, rfl⟩
        rw [← hj] at p2
        have hln := congrArg List.length p3
        rw [List.length_drop, U.len_data, List.length_append, List.length_cons, ← hj] at hln
        have hroom : j + 1 ≤ s.size - start := by omega
        have c3 : (start : Int) ≤ (start : Int) + (j : Int) := by omega
        have c4 : (start : Int) + (j : Int) ≤ (s.size : Int) := by omega
        have HA := Lib.hid (show (s.extract start (start + j)).data.toList = A from by
          rw [Lib.extract_data, Nat.add_sub_cancel_left, p3, hj]; simp)
        have HD := Lib.hid (show s.data.toList.drop (start + j + 1) = B from by
          have : s.data.toList.drop (start + j + 1) = (s.data.toList.drop start).drop (j + 1) := by rw [List.drop_drop]; congr 1
          rw [this, p3, hj, ← List.drop_drop]; simp)
        have HP := Lib.hid p2
        have HR2 := Lib.hid (show (acc ++ A) ++ without c B = without c s.data.toList from by rw [← HR.out, p3, without_at c A B hAne, List.append_assoc])
        have HG2 := Lib.hid (show Lib.countByte B c = g from by have := HG.out; rw [p3, count_at c A B hAne] at this; omega)
        have hAl : A.length = j := hj.symm
        have HAL := Lib.hid hAl
        clear p1 p2 p3 hA hB hAne hj hln hAl
        go_wp2_with fail
        refine (HI.out _ _).mono ?_
        rintro e w' ⟨rfl, hw⟩
        rw [hw, Lib.extract_to_end, HP.out]
        clear hw
        go_wp2_with fail
        refine (Bld.put_str w.heap.size w.heap.size acc A (s.extract start (start + j)) HA.out wr HB.out (by rw [HAL.out]; omega) hBw).mono ?_
        rintro e w3 ⟨rfl, h3, hb3, _⟩
        have hBw3 : w.heap.size ≤ w3.heap.size := Nat.le_trans hBw hb3.size
        have H3 := Lib.hid h3
        have Hb3 := Lib.hid hb3
        clear h3 hb3
        go_wp2_with fail
        refine (Bld.put_str w.heap.size w.heap.size (acc ++ A) [] nw HNW.out w3 H3.out (by rw [List.length_append, HAL.out]; simp; omega) hBw3).mono ?_
        rintro e w4 ⟨rfl, h4, hb4, _⟩
        rw [List.append_nil] at h4
        have H4 := Lib.hid h4
        have Hb4 := Lib.hid ((HW.out.trans Hb3.out).trans hb4)
        clear h4 hb4
        go_wp2
        go_roundg g
        case measure => omega
        case rel => exact ⟨i + 1, start + j + 1, acc ++ A, by first | rfl | (simp; unfold wrap64; omega), by (simp [HO.out]; unfold wrap64; omega), by omega, by omega, H4, Hb4, Lib.hid (by rw [HD.out]; exact HR2.out), Lib.hid (by rw [HD.out]; exact HG2.out), by rw [List.length_append, HAL.out]; omega⟩
      · have := HG.out
        have hz : Lib.countByte (s.data.toList.drop start) c = 0 := by
          unfold Lib.countByte
          rw [List.count_eq_zero]
          intro hm
          rw [← List.contains_iff_mem] at hm
          rw [p1] at hm; cases hm
        omega

set_option maxHeartbeats 1000000 in
theorem Replace_none (s o nw : ByteArray) (c : UInt8) (HC : Hid (∀ w, Calls Tryd.prog 28 #[.string s, .string o] w fun e w' => e = .returned (.int .i64 (Lib.countByte s.data.toList c)) ∧ w' = w))
    (hbeq : (o.toList == nw.toList) = false) (h0 : Lib.countByte s.data.toList c = 0) (w : World) :
    Calls Tryd.prog 27 #[.string s, .string o, .string nw, .int .i64 (-1)] w fun e w' => e = .returned (.string s) ∧ w = w' := by
  have HK := Lib.hid h0
  clear h0
  go_enter Tryd.func27, Tryd.ntmps27
  go_wp2_with fail
  refine (HC.out _).mono ?_
  rintro e w0 ⟨rfl, hw⟩
  rw [hw, HK.out]
  clear hw
  go_wp2
  go_ret
  exact ⟨rfl, rfl⟩
/-- A byte taken out everywhere. -/
theorem ReplaceAll_one (s : ByteArray) (c : UInt8) (hs : s.size ≤ 68719476736) (w : World) :
    Calls Tryd.prog 25 #[.string s, .string ⟨#[c]⟩, .string ⟨#[]⟩] w fun e w' => e = .returned (.string ⟨(without c s.data.toList).toArray⟩) ∧ Below w.heap.size w w' := by
  have HC := Lib.hid (fun w => Tryd.strings_Count_one s c w)
  have HI := Lib.hid (fun t w => Tryd.strings_Index_one t c w)
  have HR : Hid (∀ w, Calls Tryd.prog 27 #[.string s, .string ⟨#[c]⟩, .string ⟨#[]⟩, .int .i64 (-1)] w fun e w' => e = .returned (.string ⟨(without c s.data.toList).toArray⟩) ∧ Below w.heap.size w w') := Lib.hid (fun w => by
    rcases Nat.eq_zero_or_pos (Lib.countByte s.data.toList c) with h0 | h0
    · refine (Replace_none s ⟨#[c]⟩ ⟨#[]⟩ c HC (by rw [Lib.toList_data, Lib.toList_data]; rfl) h0 w).mono ?_
      rintro e w' ⟨rfl, rfl⟩
      rw [without_no c _ h0]
      exact ⟨by rw [← U.mk_data s _ rfl], Below.refl _ _⟩
    · exact Replace_some s ⟨#[c]⟩ ⟨#[]⟩ c hs HC HI rfl rfl _ rfl h0 w)
  clear HC HI
  go_enter Tryd.func25, Tryd.ntmps25
  go_wp2_with fail
  refine (HR.out _).mono ?_
  rintro e w' ⟨rfl, hb⟩
  go_wp2
  go_ret
  exact ⟨rfl, hb⟩
end Go.Proofs.YtofdiilfedjhkaaDoor.Rep
end
