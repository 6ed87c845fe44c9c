/- strings.Cut and strings.Split at a separator of one byte, strings.TrimSuffix, strings.IndexByte at this translation: for every text; nothing of the library's variables is read. -/
import Derived.Test.YthifpbaebbodoaaDoorUtil
import Derived.Test.YthifpbaebbodoaaDoorShelf
import Derived.Deep.QuietTactic
import Derived.BigQuiet
import Derived.LoopTactic
import Derived.Outline
import Derived.OwnWalk
import Derived.Laws.OwnMore
import Derived.Lib.Bytealg
set_option linter.unusedVariables false
set_option linter.unusedSimpArgs false
namespace Go.Proofs.YthifpbaebbodoaaDoor.Strs
open Go.RowKit

/-- What stands ahead of the first c, and behind it. -/
def foreB (c : UInt8) (l : List UInt8) : List UInt8 := l.takeWhile (· != c)
def aftB (c : UInt8) (l : List UInt8) : List UInt8 := (l.dropWhile (· != c)).tail
theorem parts : ∀ (c : UInt8) (l : List UInt8), (l.contains c = true ∧ Lib.indexByte l c = ((foreB c l).length : Int) ∧ l = foreB c l ++ c :: aftB c l) ∨ (l.contains c = false ∧ Lib.indexByte l c = -1 ∧ foreB c l = l ∧ aftB c l = [])
  | c, [] => .inr ⟨rfl, rfl, rfl, rfl⟩
  | c, x :: l => by
    by_cases h : x = c
    · subst h
      left
      refine ⟨by simp, by simp [Lib.indexByte, foreB], by simp [foreB, aftB]⟩
    · have hne : (x != c) = true := by rw [bne_iff_ne]; exact h
      have hne2 : (x == c) = false := by rw [beq_eq_false_iff_ne]; exact h
      have ha : foreB c (x :: l) = x :: foreB c l := by simp [foreB, hne]
      have hb : aftB c (x :: l) = aftB c l := by simp [aftB, hne]
      have hcx : (x :: l).contains c = l.contains c := by simp [List.contains_cons, Ne.symm h]
      have hi : Lib.indexByte (x :: l) c = if Lib.indexByte l c == -1 then -1 else Lib.indexByte l c + 1 := by simp [Lib.indexByte, hne2]
      rcases parts c l with ⟨h1, h2, h3⟩ | ⟨h1, h2, h3, h4⟩
      · left
        refine ⟨by rw [hcx, h1], ?_, by rw [ha, hb, List.cons_append, ← h3]⟩
        rw [hi, ha, h2, if_neg (by rw [beq_iff_eq]; omega), List.length_cons]; omega
      · right
        exact ⟨by rw [hcx, h1], by rw [hi, h2]; rfl, by rw [ha, h3], by rw [hb, h4]⟩
theorem foreB_le (c : UInt8) (l : List UInt8) : (foreB c l).length ≤ l.length := by
  rcases parts c l with ⟨_, _, h⟩ | ⟨_, _, h, _⟩
  · have := congrArg List.length h
    rw [List.length_append, List.length_cons] at this; omega
  · rw [h]; omega

theorem cut_at (c : UInt8) (A B L : List UInt8) (h : L = A ++ c :: B) : L.take A.length = A ∧ L.drop (A.length + 1) = B := by
  subst h
  refine ⟨by simp, ?_⟩
  rw [List.drop_append]; simp
/-- What Cut gives. -/
def cutV (c : UInt8) (s : ByteArray) : Value := .tuple #[.string ⟨(foreB c s.data.toList).toArray⟩, .string ⟨(aftB c s.data.toList).toArray⟩, .bool (s.data.toList.contains c)]

set_option maxHeartbeats 1000000 in
theorem slCut (c : UInt8) (s : ByteArray) (hs : s.size ≤ 140737488355328) (w : World) :
    Calls Tryd.prog 34 #[.string s, .string ⟨#[c]⟩] w fun e w' => e = .returned (cutV c s) ∧ Below w.heap.size w w' := by
  rcases parts c s.data.toList with ⟨h1, h2, h3⟩ | ⟨h1, h2, h3, h4⟩
  · have hlen := congrArg List.length h3
    rw [U.len_data, List.length_append, List.length_cons] at hlen
    obtain ⟨k, hk⟩ : ∃ k, k = (foreB c s.data.toList).length := ⟨_, rfl⟩
    rw [← hk] at hlen h2
    have hk1 : k + 1 ≤ s.size := by omega
    have ht : (s.extract 0 k).data.toList = foreB c s.data.toList := by rw [U.take_data, hk]; exact (cut_at c _ _ _ h3).1
    have hd : (s.extract (k + 1) s.size).data.toList = aftB c s.data.toList := by rw [U.drop_data, hk]; exact (cut_at c _ _ _ h3).2
    have HT := Lib.hid ht
    have HD := Lib.hid hd
    have H1 := Lib.hid h1
    clear ht hd h1 hlen hk h3
    go_enter Tryd.func34, Tryd.ntmps34
    go_wp2_with fail
    refine (Tryd.stringslite_Index_one s c _).mono ?_
    rintro e w' ⟨rfl, hw⟩
    rw [hw, h2]
    clear hw h2
    go_wp2
    go_quiet (fail)
    go_wp2
    go_ret3
    refine ⟨?_, U.below_drewN (Below.refl _ _) _⟩
    rw [cutV, ← HT.out, ← HD.out, H1.out]
    rfl
  · have H3 := Lib.hid h3
    have H4 := Lib.hid h4
    have H1 := Lib.hid h1
    clear h1 h3 h4
    go_enter Tryd.func34, Tryd.ntmps34
    go_wp2_with fail
    refine (Tryd.stringslite_Index_one s c _).mono ?_
    rintro e w' ⟨rfl, hw⟩
    rw [hw, h2]
    clear hw h2
    go_wp2
    go_ret3
    refine ⟨?_, Below.refl _ _⟩
    rw [cutV, H3.out, H4.out, H1.out]
    rfl


theorem Cut_any (c : UInt8) (s : ByteArray) (hs : s.size ≤ 140737488355328) (w : World) :
    Calls Tryd.prog 24 #[.string s, .string ⟨#[c]⟩] w fun e w' => e = .returned (cutV c s) ∧ Below w.heap.size w w' := by
  obtain ⟨A, hA⟩ : ∃ A : ByteArray, A = ⟨(foreB c s.data.toList).toArray⟩ := ⟨_, rfl⟩
  obtain ⟨B, hB⟩ : ∃ B : ByteArray, B = ⟨(aftB c s.data.toList).toArray⟩ := ⟨_, rfl⟩
  obtain ⟨f, hf⟩ : ∃ f : Bool, f = s.data.toList.contains c := ⟨_, rfl⟩
  have hV : cutV c s = .tuple #[.string A, .string B, .bool f] := by rw [hA, hB, hf]; rfl
  have HV := Lib.hid hV
  clear hA hB hf hV
  go_enter Tryd.func24, Tryd.ntmps24
  go_wp2_with fail
  refine (slCut c s hs _).mono ?_
  rintro e w' ⟨rfl, hb⟩
  rw [HV.out]
  go_wp2
  go_ret3
  exact ⟨by rw [HV.out]; rfl, hb⟩

theorem TrimSuffix_one (c : UInt8) (s : ByteArray) (hs : s.size ≤ 140737488355328) (w : World) :
    Calls Tryd.prog 33 #[.string s, .string ⟨#[c]⟩] w fun e w' => e = .returned (.string ⟨(if s.data.toList.getLast? = some c then s.data.toList.dropLast else s.data.toList).toArray⟩) ∧ w = w' := by
  refine (Tryd.strings_TrimSuffix s ⟨#[c]⟩ w (by omega)).mono ?_
  rintro e w' ⟨rfl, rfl⟩
  refine ⟨?_, rfl⟩
  unfold Lib.trimSuffix Lib.hasSuffix
  generalize s.data.toList = l
  rcases List.eq_nil_or_concat l with rfl | ⟨l', x, rfl⟩
  · simp
  · by_cases h : x = c
    · subst h
      simp
    · have : ([c] : List UInt8).isSuffixOf (l' ++ [x]) = false := by
        rw [Bool.eq_false_iff]; intro hp
        have := List.isSuffixOf_iff_suffix.1 hp
        obtain ⟨t, ht⟩ := this
        have := (List.append_inj' ht rfl).2
        simp at this; exact h this.symm
      simp [this, h]

theorem IndexByte_has (s : ByteArray) (c : UInt8) (n : Int) (hn : n = (c.toNat : Int)) (w : World) :
    Calls Tryd.prog 36 #[.string s, .int .u8 n] w fun e w' => (∃ k : Int, e = .returned (.int .i64 k) ∧ (decide (0 ≤ k)) = s.data.toList.contains c) ∧ w = w' := by
  subst hn
  refine (Tryd.strings_IndexByte s _ w).mono ?_
  rintro e w' ⟨rfl, rfl⟩
  refine ⟨⟨_, rfl, ?_⟩, rfl⟩
  rw [show ((c.toNat : Int)).toNat.toUInt8 = c from by simp]
  rcases parts c s.data.toList with ⟨h1, h2, _⟩ | ⟨h1, h2, _⟩
  · rw [h1, h2]; simp
  · rw [h1, h2]; rfl

/-- The pieces between the bytes c. -/
def pieces (c : UInt8) : List UInt8 → List (List UInt8)
  | [] => [[]]
  | x :: l => if x = c then [] :: pieces c l else match pieces c l with | p :: ps => (x :: p) :: ps | [] => [[x]]
theorem pieces_ne (c : UInt8) : ∀ l, pieces c l ≠ []
  | [] => by simp [pieces]
  | x :: l => by
    simp only [pieces]
    split
    · simp
    · split <;> simp
theorem pieces_len (c : UInt8) : ∀ l, (pieces c l).length = Lib.countByte l c + 1
  | [] => rfl
  | x :: l => by
    have ih := pieces_len c l
    simp only [pieces, Lib.countByte, List.count_cons]
    by_cases h : x = c
    · rw [if_pos h, List.length_cons, ih, Lib.countByte]; simp [h]
    · rw [if_neg h]
      have hx : (x == c) = false := by rw [beq_eq_false_iff_ne]; exact h
      rw [hx]
      split
      · rename_i p ps hp
        rw [hp] at ih
        simpa [Lib.countByte] using ih
      · rename_i hp
        exact absurd hp (pieces_ne c l)
theorem pieces_no (c : UInt8) : ∀ l, l.contains c = false → pieces c l = [l]
  | [], _ => rfl
  | x :: l, h => by
    simp only [List.contains_cons, Bool.or_eq_false_iff] at h
    simp only [pieces]
    rw [if_neg (by intro e; rw [e] at h; simp at h), pieces_no c l h.2]
theorem pieces_yes (c : UInt8) : ∀ A B, A.contains c = false → pieces c (A ++ c :: B) = A :: pieces c B
  | [], B, _ => by simp [pieces]
  | x :: A, B, h => by
    simp only [List.contains_cons, Bool.or_eq_false_iff] at h
    simp only [List.cons_append, pieces]
    rw [if_neg (by intro e; rw [e] at h; simp at h), pieces_yes c A B h.2]
theorem foreB_no (c : UInt8) (l : List UInt8) : (foreB c l).contains c = false := by
  induction l with
  | nil => rfl
  | cons x l ih =>
    by_cases h : x = c
    · subst h; simp [foreB]
    · have hne : (x != c) = true := by rw [bne_iff_ne]; exact h
      have ha : foreB c (x :: l) = x :: foreB c l := by simp [foreB, hne]
      rw [ha, List.contains_cons, ih]
      simp; exact fun e => h e.symm

/-- A row of strings of the call's own. -/
def StrsAt (g : Nat) (ps : List (List UInt8)) (w : World) : Prop := ∀ j (h : j < ps.length), w.cell? ⟨g, j, none⟩ = some (.string ⟨(ps[j]).toArray⟩)
def str (p : List UInt8) : Value := .string ⟨p.toArray⟩

theorem info_str : (Tryd.prog.info? 9).map (fun i => (i.zero, i.size, i.bytes)) = some (some (.string ⟨#[]⟩), 1, 16) := by kernel_rfl

set_option maxHeartbeats 2000000 in
theorem genSplit_one (c : UInt8) (s : ByteArray) (hs : s.size ≤ 140737488355) (w : World) :
    Calls Tryd.prog 37 #[.string s, .string ⟨#[c]⟩, .int .i64 0, .int .i64 (-1)] w fun e w' => ∃ g, e = .returned (.slice (some ⟨g, 0, none⟩) (pieces c s.data.toList).length (pieces c s.data.toList).length) ∧ Below w.heap.size w w' ∧ StrsAt g (pieces c s.data.toList) w' := by
  obtain ⟨i0, hi, hz0, hz1, hz2⟩ := info_parts info_str
  have hpl := pieces_len c s.data.toList
  have hcl : Lib.countByte s.data.toList c ≤ s.size := by
    unfold Lib.countByte
    have := List.count_le_length (a := c) (l := s.data.toList)
    rw [U.len_data] at this; exact this
  obtain ⟨n, hn⟩ : ∃ n, n = Lib.countByte s.data.toList c := ⟨_, rfl⟩
  rw [← hn] at hpl hcl
  have HP := Lib.hid hpl; clear hpl
  go_enter Tryd.func37, Tryd.ntmps37
  go_wp2_with fail
  refine (Tryd.strings_Count_one s c _).mono ?_
  rintro e w' ⟨rfl, hw⟩
  rw [hw, ← hn]
  have HNC := Lib.hid hn
  clear hw hn
  have hmin : min (n : Int) (s.size : Int) = (n : Int) := by omega
  go_wp2_with (refine wpList_make_full _ rfl (.tmp 30) (.tmp 30) 45 rfl w.heap.size 9 i0 (.string ⟨#[]⟩) 1 Tryd.underlying45 hi hz0 hz1 .i64 .i64 ((n : Int) + 1) ((n : Int) + 1) (n + 1) rfl rfl (by omega) (by omega) (by rw [hz2]; omega) (by unfold maxLen; omega) (Nat.le_refl _) ?_)
  intro w1 hown hgrow
  clear hmin
  have hb1 : Below w.heap.size w w1 := (Below.refl _ _).grown hgrow (Nat.le_refl _) (by intro k hk; cases hk)
  have hsz1 := hb1.size
  obtain ⟨xs, hxs⟩ : ∃ xs, xs = (madeCells #[Value.string ⟨#[]⟩] (n + 1)).toList := ⟨_, rfl⟩
  rw [← hxs] at hown
  have hxl : xs.length = n + 1 := by have := hown.1; omega
  have HXL := Lib.hid hxl
  have HOWN := Lib.hid hown
  clear hxs hgrow hxl hown
  go_wp2
  go_loopw [0, 10] (fun t i wr => ∃ (r : ByteArray) (k : Nat) (done : List (List UInt8)) (xs : List Value), k ≤ n ∧ t = .string r ∧ i = .int .i64 k ∧ r.size ≤ s.size ∧ Hid (k + Lib.countByte r.data.toList c = n ∧ pieces c s.data.toList = done ++ pieces c r.data.toList ∧ done.length = k ∧ xs.length = n + 1 ∧ xs.take k = done.map str) ∧
      Hid (wr.ownsRow w.heap.size 9 1 (.slice (some ⟨w.heap.size, 0, none⟩) (n + 1) (n + 1)) (n + 1) xs) ∧ Below w.heap.size w wr) (fun _ i _ => n - (intOf i).toNat)
  case atStart => exact ⟨s, 0, [], xs, by omega, rfl, rfl, Nat.le_refl _, Lib.hid ⟨by rw [HNC.out]; omega, rfl, rfl, HXL.out, rfl⟩, HOWN, hb1⟩
  case round =>
    obtain ⟨r, k, done, xs, hk, rfl, rfl, hrs, HR, HO, hbw⟩ := hrel
    by_cases hlt : k < n
    · have hcnt : 0 < Lib.countByte r.data.toList c := by have := HR.out.1; omega
      have hcon : r.data.toList.contains c = true := by
        rw [List.contains_iff_mem]; exact List.count_pos_iff.1 hcnt
      rcases parts c r.data.toList with ⟨h1, h2, h3⟩ | ⟨h1, _⟩
      · have hlen := congrArg List.length h3
        rw [U.len_data, List.length_append, List.length_cons] at hlen
        obtain ⟨m, hm⟩ : ∃ m, m = (foreB c r.data.toList).length := ⟨_, rfl⟩
        rw [← hm] at hlen h2
        have hm1 : m + 1 ≤ r.size := by omega
        have H3 := Lib.hid h3
        have HM := Lib.hid hm
        clear hlen h3 hm hcon hcnt h1
        have hfz := HO.out.frozenAt k
        have hce := HO.out.cellAt k (by omega)
        obtain ⟨old, hold⟩ : ∃ v, xs[k]? = some v := ⟨xs[k]'(by have := HR.out.2.2.2.1; omega), List.getElem?_eq_getElem _⟩
        rw [hold] at hce
        clear hold
        go_wp2_with fail
        refine (Tryd.strings_Index_one r c _).mono ?_
        rintro e w' ⟨rfl, hw⟩
        rw [hw, h2]
        clear hw h2
        go_wp2
        go_roundw
        case rel =>
          have hst := HO.out.stored k (.string (r.extract 0 m))
          obtain ⟨e1, e2, e3, e4, e5⟩ := HR.out
          have hp : (r.extract 0 m) = ⟨(foreB c r.data.toList).toArray⟩ := U.mk_data _ _ (by rw [U.take_data, HM.out]; exact (cut_at c _ _ _ H3.out).1)
          have hq : (r.extract (m + 1) r.size).data.toList = aftB c r.data.toList := by rw [U.drop_data, HM.out]; exact (cut_at c _ _ _ H3.out).2
          refine ⟨r.extract (m + 1) r.size, k + 1, done ++ [foreB c r.data.toList], xs.set k (.string (r.extract 0 m)), by omega, rfl, by go_num, by rw [ByteArray.size_extract]; omega, Lib.hid ⟨?_, ?_, ?_, ?_, ?_⟩, Lib.hid hst.1, hbw.grown hst.2 hbw.size (by intro q hq; cases hq; exact Nat.le_refl _)⟩
          · rw [hq]
            have h4 : Lib.countByte r.data.toList c = Lib.countByte (aftB c r.data.toList) c + 1 := by
              have hz : Lib.countByte (foreB c r.data.toList) c = 0 := List.count_eq_zero.2 (by
                have := foreB_no c r.data.toList
                rw [← List.contains_iff_mem, this]; simp)
              unfold Lib.countByte at hz ⊢
              conv => lhs; rw [H3.out]
              rw [List.count_append, hz, List.count_cons]; simp
            omega
          · rw [e2, hq]
            conv => lhs; rw [H3.out]
            rw [pieces_yes c _ _ (foreB_no c _)]; simp
          · rw [List.length_append, e3]; rfl
          · rw [List.length_set]; exact e4
          · rw [List.take_succ_eq_append_getElem (by rw [List.length_set]; omega), List.getElem_set_self, List.take_set_of_le (Nat.le_refl _), e5, List.map_append, hp]; rfl
        case measure => simp [intOf]; omega
      · rw [hcon] at h1; cases h1
    · have hkn : k = n := by omega
      have hno : r.data.toList.contains c = false := by
        have h0 : Lib.countByte r.data.toList c = 0 := by have := HR.out.1; omega
        rw [Bool.eq_false_iff]; intro hc
        exact List.count_eq_zero.1 h0 (List.contains_iff_mem.1 hc)
      have hfz := HO.out.frozenAt k
      have hce := HO.out.cellAt k (by omega)
      obtain ⟨old, hold⟩ : ∃ v, xs[k]? = some v := ⟨xs[k]'(by have := HR.out.2.2.2.1; omega), List.getElem?_eq_getElem _⟩
      rw [hold] at hce
      have HNO := Lib.hid hno
      have HKN := Lib.hid hkn
      clear hold hno hkn
      go_wp2
      go_ret
      have hst := HO.out.stored k (.string r)
      obtain ⟨e1, e2, e3, e4, e5⟩ := HR.out
      have hpp : pieces c s.data.toList = done ++ [r.data.toList] := by rw [e2, pieces_no c _ HNO.out]
      refine ⟨w.heap.size, ?_, hbw.grown hst.2 hbw.size (by intro q hq; cases hq; exact Nat.le_refl _), ?_⟩
      · obtain rfl : k = n := HKN.out
        rw [HP.out]; rfl
      · intro j hj
        rw [hst.1.cellAt j (by rw [HP.out] at hj; omega)]
        have hall : xs.set k (.string r) = (pieces c s.data.toList).map str := by
          rw [hpp, List.map_append, ← e5]
          apply List.ext_getElem
          · rw [List.length_set, List.length_append, List.length_take, e4]; simp; have := HKN.out; omega
          · intro i h1 h2
            rw [List.getElem_set]
            split
            · rename_i hki
              subst hki
              rw [List.getElem_append_right (by rw [List.length_take]; omega)]
              simp [List.length_take, e4, str]
            · rename_i hki
              rw [List.length_set, e4] at h1
              have := HKN.out
              rw [List.getElem_append_left (by rw [List.length_take]; omega), List.getElem_take]
        rw [hall, List.getElem?_map, List.getElem?_eq_getElem hj]; rfl


theorem Split_one (c : UInt8) (s : ByteArray) (hs : s.size ≤ 140737488355) (w : World) :
    Calls Tryd.prog 28 #[.string s, .string ⟨#[c]⟩] w fun e w' => ∃ g, e = .returned (.slice (some ⟨g, 0, none⟩) (pieces c s.data.toList).length (pieces c s.data.toList).length) ∧ Below w.heap.size w w' ∧ StrsAt g (pieces c s.data.toList) w' := by
  obtain ⟨ps, hps⟩ : ∃ ps, ps = pieces c s.data.toList := ⟨_, rfl⟩
  have HG := fun w => genSplit_one c s hs w
  rw [← hps] at HG ⊢
  have HG2 := Lib.hid HG
  clear HG hps
  go_enter Tryd.func28, Tryd.ntmps28
  go_wp2_with fail
  refine (HG2.out _).mono ?_
  rintro e w' ⟨g, rfl, hb, hq⟩
  go_wp2
  go_ret
  exact ⟨g, rfl, hb, hq⟩

end Go.Proofs.YthifpbaebbodoaaDoor.Strs
