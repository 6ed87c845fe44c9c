/- wharfref01.Signs, wharfref03.text, in, first, Norm, as printed: what they come to. Plain. -/
import Derived.Test.YthifpbaebbodoaaDoorRaP
import Derived.Test.YthifpbaebbodoaaDoorJidP
import Derived.Test.YthifpbaebbodoaaDoorRefJ
set_option linter.unusedVariables false
set_option linter.unusedSimpArgs false
namespace Go.Proofs.YthifpbaebbodoaaDoor.RaP
open Go.RowKit GlyP Go.Proofs.YthifpbaebbodoaaDoorW.PrintWords Go.Proofs.YthifpbaebbodoaaDoorW.PrintLast Go.Proofs.YthifpbaebbodoaaDoorW.PrintMore Ra JidP

theorem plain_eq (c : Nat) : wharfref01_Plain.f (c : Int) = some (plain c) := by
  unfold wharfref01_Plain.f plain
  by_cases h9 : c = 9
  · subst h9; rfl
  · rw [if_neg (by omega)]
    by_cases h10 : c = 10
    · subst h10; rfl
    · rw [if_neg (by omega)]
      by_cases h13 : c = 13
      · subst h13; rfl
      · rw [if_neg (by omega)]
        have e1 : (c == 9) = false := by simpa using h9
        have e2 : (c == 10) = false := by simpa using h10
        have e3 : (c == 13) = false := by simpa using h13
        rw [e1, e2, e3]
        simp only [Bool.false_or]
        by_cases h32 : 32 ≤ c
        · rw [if_pos (by omega), decide_eq_true h32]
          by_cases h4 : c = 65534
          · subst h4; rfl
          · rw [if_neg (by omega)]
            have e4 : (c != 65534) = true := by simpa using h4
            have e5 : ((c : Int) != 65535) = (c != 65535) := by
              rw [Bool.eq_iff_iff]; simp only [bne_iff_ne]; omega
            rw [e4, e5]; rfl
        · rw [if_neg (by omega), decide_eq_false h32]; rfl

theorem drop_extract (s : ByteArray) (n : Nat) (j : Int) (h : j = (n : Int)) : (s.extract j.toNat s.size).data.toList = s.data.toList.drop n := by
  subst h; rw [U.drop_data]; simp
theorem size_drop (s : ByteArray) (n : Nat) (j : Int) (h : j = (n : Int)) : (s.extract j.toNat s.size).size = s.size - n := by
  rw [← U.len_data, drop_extract s n j h, List.length_drop, U.len_data]

def resS (acc : List Int) (o : Option (List Nat)) : List Int × Bool := match o with | none => ([], false) | some cs => (acc ++ cs.map (fun c : Nat => (c : Int)), true)
theorem signs_ev : ∀ (m : Nat) (s : ByteArray) (acc : List Int), s.size ≤ m → acc.length + s.size < 17592186044416 →
    Ev (fun k => wharfref01_Signs.l0 k s acc) (resS acc (signs s.data.toList.length s.data.toList)) := by
  intro m
  induction m with
  | zero =>
    intro s acc hm ha
    have e : s.data.toList = [] := by rw [← Lib.toList_data]; exact U.toList_nil s (by omega)
    refine Ev.step (fun k => ?_) (Ev.now _)
    simp only [wharfref01_Signs.l0]
    rw [if_pos (U.toList_nil s (by omega)), e]
    simp [signs, resS]
  | succ m ih =>
    intro s acc hm ha
    by_cases hz : s.size = 0
    · have e : s.data.toList = [] := by rw [← Lib.toList_data]; exact U.toList_nil s hz
      refine Ev.step (fun k => ?_) (Ev.now _)
      simp only [wharfref01_Signs.l0]
      rw [if_pos (U.toList_nil s hz), e]
      simp [signs, resS]
    · have hl : s.data.toList.length = s.size := U.len_data s
      have hne : ¬ s.toList = [] := fun h => by
        have := congrArg List.length h
        rw [Lib.toList_data, hl] at this; exact hz (this.trans rfl)
      obtain ⟨a, l, hal⟩ : ∃ a l, s.data.toList = a :: l := by
        cases h : s.data.toList with
        | nil => rw [h] at hl; simp at hl; omega
        | cons a l => exact ⟨a, l, rfl⟩
      refine Ev.step (fun k => by simp only [wharfref01_Signs.l0]; rw [if_neg hne]) ?_
      refine Ev.bind (first_ev s (by omega)) ?_
      have hs : signs s.data.toList.length s.data.toList = match first s.data.toList with | none => none | some (c, n) => if plain c then (signs (s.data.toList.drop n).length (s.data.toList.drop n)).map (c :: ·) else none := by
        rw [hal, List.length_cons]
        simp only [signs]
        cases ho : first (a :: l) with
        | none => rfl
        | some x =>
          obtain ⟨c, n⟩ := x
          have hfs := first_some _ _ _ ho
          simp only
          rw [signs_fuel l.length _ _ (by rw [List.length_drop, List.length_cons]; omega) (Nat.le_refl _)]
      rw [hs]
      cases ho : first s.data.toList with
      | none =>
        simp only [res3, resS]
        exact Ev.now _
      | some x =>
        obtain ⟨c, n⟩ := x
        have hfs := first_some _ _ _ ho
        rw [hl] at hfs
        simp only [res3, if_true]
        rw [plain_eq]
        simp only [Option.bind_some]
        cases hp : plain c with
        | false =>
          simp only [Bool.false_eq_true, if_false, resS]
          exact Ev.now _
        | true =>
          simp only [if_true]
          have g1 := eq_true (show acc.length < 17592186044416 by omega)
          have g2 := eq_true (show 0 ≤ (n : Int) by omega)
          have g3 := eq_true (show (n : Int) ≤ (s.size : Int) by omega)
          simp only [g1, g2, g3, if_true]
          have hsz := size_drop s n (n : Int) rfl
          have h := ih (s.extract (n : Int).toNat s.size) (acc ++ [(c : Int)]) (by omega) (by rw [List.length_append, hsz]; simp; omega)
          rw [drop_extract s n _ rfl] at h
          refine cast (congrArg _ ?_) h
          cases signs (s.data.toList.drop n).length (s.data.toList.drop n) with
          | none => rfl
          | some cs => simp [resS]

theorem first_bytes (l : List UInt8) (c n : Nat) (h : first l = some (c, n)) : (n = 1 ∧ c = by_ l 0 ∧ c < 128) ∨ (128 ≤ c ∧ ∀ i < n, 128 ≤ by_ l i) := by
  have hl : 0 < l.length := by have := first_some _ _ _ h; omega
  have := by_lt l 0
  by_cases c1 : by_ l 0 < 128
  · rw [first_1 l hl c1] at h
    obtain ⟨rfl, rfl⟩ := Prod.mk.inj (Option.some.inj h)
    exact .inl ⟨rfl, rfl, c1⟩
  · by_cases c2 : by_ l 0 < 192
    · rw [first_bad l (by omega)] at h; cases h
    · by_cases c3 : by_ l 0 < 224
      · rw [first_2 l (by omega)] at h
        split at h
        · obtain ⟨rfl, rfl⟩ := Prod.mk.inj (Option.some.inj h)
          refine .inr ⟨by omega, fun i hi => ?_⟩
          obtain rfl | rfl : i = 0 ∨ i = 1 := by omega
          all_goals omega
        · cases h
      · by_cases c4 : by_ l 0 < 240
        · rw [first_3 l (by omega) _ rfl] at h
          split at h
          · obtain ⟨rfl, rfl⟩ := Prod.mk.inj (Option.some.inj h)
            refine .inr ⟨by omega, fun i hi => ?_⟩
            obtain rfl | rfl | rfl : i = 0 ∨ i = 1 ∨ i = 2 := by omega
            all_goals omega
          · cases h
        · by_cases c5 : by_ l 0 < 248
          · rw [first_4 l (by omega) _ rfl] at h
            split at h
            · obtain ⟨rfl, rfl⟩ := Prod.mk.inj (Option.some.inj h)
              refine .inr ⟨by omega, fun i hi => ?_⟩
              obtain rfl | rfl | rfl | rfl : i = 0 ∨ i = 1 ∨ i = 2 ∨ i = 3 := by omega
              all_goals omega
            · cases h
          · rw [first_bad l (by omega)] at h; cases h

def okB (b : UInt8) : Bool := !(decide (b < 32) || b == 127)
def okC (c : Nat) : Bool := !(decide (c < 32) || c == 127)
theorem okB_eq (b : UInt8) : okB b = okC b.toNat := by
  unfold okB okC
  have e1 : decide (b < 32) = decide (b.toNat < 32) := by
    rw [Bool.eq_iff_iff]; simp only [decide_eq_true_eq]; exact UInt8.lt_iff_toNat_lt
  have e2 : (b == 127) = (b.toNat == 127) := by
    rw [Bool.eq_iff_iff]; simp only [beq_iff_eq]; rw [← UInt8.toNat_inj]; rfl
  rw [e1, e2]
theorem okC_big (c : Nat) (h : 128 ≤ c) : okC c = true := by unfold okC; simp; omega
theorem by_at (l : List UInt8) (i : Nat) (h : i < l.length) : by_ l i = l[i].toNat := by
  unfold by_; rw [List.getD_eq_getElem?_getD, List.getElem?_eq_getElem h]; rfl
theorem all_signs : ∀ (f : Nat) (l : List UInt8) (cs : List Nat), signs f l = some cs → cs.all okC = l.all okB
  | _, [], cs, h => by simp [signs] at h; subst h; rfl
  | 0, _ :: _, cs, h => by simp [signs] at h
  | f + 1, a :: l, cs, h => by
    simp only [signs] at h
    cases ho : first (a :: l) with
    | none => rw [ho] at h; cases h
    | some x =>
      obtain ⟨c, n⟩ := x
      rw [ho] at h
      simp only at h
      have hfs := first_some _ _ _ ho
      have hb := first_bytes _ _ _ ho
      cases hp : plain c with
      | false => rw [hp] at h; cases h
      | true =>
        rw [hp] at h
        simp only [if_true] at h
        cases hr : signs f ((a :: l).drop n) with
        | none => rw [hr] at h; cases h
        | some ds =>
          rw [hr] at h
          obtain rfl := Option.some.inj h
          have ih := all_signs f _ ds hr
          rw [List.all_cons, ih]
          conv => rhs; rw [← List.take_append_drop n (a :: l)]
          rw [List.all_append]
          congr 1
          rcases hb with ⟨rfl, hc, hlt⟩ | ⟨hc, hi⟩
          · rw [List.take_succ_cons, List.take_zero, List.all_cons, List.all_nil, Bool.and_true, okB_eq, hc, by_at _ 0 (by simp)]; rfl
          · rw [okC_big c hc]
            symm
            rw [List.all_eq_true]
            intro b hbm
            obtain ⟨i, hil, rfl⟩ := List.getElem_of_mem hbm
            rw [okB_eq]
            apply okC_big
            rw [List.length_take] at hil
            have := hi i (by omega)
            rw [by_at _ i (by omega)] at this
            rw [List.getElem_take]; exact this

theorem rd_get (cs : List Nat) (i : Nat) (h : i < cs.length) (j : Int) (hj : j = i) : rd (cs.map fun c : Nat => (c : Int)) j = (cs[i] : Int) := by
  subst hj
  unfold rd
  rw [List.getD_eq_getElem?_getD, List.getElem?_eq_getElem (by simpa using h)]; simp
theorem text_loop (cs : List Nat) (hl : cs.length < 9000000000000000000) : ∀ (d i : Nat), i + d = cs.length →
    Ev (fun k => wharfref03_text.l0 k (cs.map fun c : Nat => (c : Int)) (i : Int)) ((cs.drop i).all okC) := by
  intro d
  induction d with
  | zero =>
    intro i hi
    refine Ev.step (fun k => ?_) (Ev.now _)
    simp only [wharfref03_text.l0]
    rw [if_neg (by simp; omega), List.drop_of_length_le (by omega)]; rfl
  | succ d ih =>
    intro i hi
    have hil : i < cs.length := by omega
    rw [List.drop_eq_getElem_cons hil, List.all_cons]
    cases ho : okC cs[i] with
    | false =>
      refine Ev.step (fun k => ?_) (Ev.now _)
      simp only [wharfref03_text.l0]
      rw [if_pos (by simp; omega), if_pos (by omega), rd_get cs i hil _ rfl]
      unfold okC at ho
      simp at ho
      by_cases h : cs[i] < 32
      · rw [if_pos (by omega)]; rfl
      · rw [if_neg (by omega), if_pos (by omega)]; rfl
    | true =>
      refine Ev.step (fun k => ?_) (ih (i + 1) (by omega))
      simp only [wharfref03_text.l0]
      unfold okC at ho
      simp at ho
      rw [if_pos (by simp; omega), if_pos (by omega), rd_get cs i hil _ rfl, if_neg (by omega), if_neg (by omega), w64 _ (by omega) (by omega)]
      rfl
theorem signs_len : ∀ (f : Nat) (l : List UInt8) (cs : List Nat), signs f l = some cs → cs.length ≤ l.length
  | _, [], cs, h => by simp [signs] at h; subst h; exact Nat.le_refl _
  | 0, _ :: _, cs, h => by simp [signs] at h
  | f + 1, a :: l, cs, h => by
    simp only [signs] at h
    cases ho : first (a :: l) with
    | none => rw [ho] at h; cases h
    | some x =>
      obtain ⟨c, n⟩ := x
      rw [ho] at h
      simp only at h
      have hfs := first_some _ _ _ ho
      split at h
      · cases hr : signs f ((a :: l).drop n) with
        | none => rw [hr] at h; cases h
        | some ds =>
          rw [hr] at h
          obtain rfl := Option.some.inj h
          have ih := signs_len f _ ds hr
          rw [List.length_drop] at ih
          rw [List.length_cons]; omega
      · cases h
theorem text_ev (s : ByteArray) (hs : s.size < 17592186044416) : Ev (fun k => wharfref03_text.f k s) (isPart s.data.toList) := by
  have hS := signs_ev s.size s [] (Nat.le_refl _) (by simp; omega)
  refine Ev.congr (g := fun k => wharfref03_text.f k s) (fun k => by unfold wharfref03_text.f wharfref01_Signs.f; rfl) ?_
  refine Ev.bind hS ?_
  have hle : decide (s.data.toList.length ≤ 1023) = !(decide ((s.size : Int) > 1023)) := by
    rw [U.len_data, Bool.eq_iff_iff]; simp; omega
  unfold isPart isText
  rw [hle]
  cases ho : signs s.data.toList.length s.data.toList with
  | none =>
    simp only [resS, Bool.false_eq_true, if_false]
    refine Ev.step (f := fun _ => some false) (fun k => by simp only [wharfref03_text.j0, if_true]) ?_
    simp
    exact Ev.now _
  | some cs =>
    simp only [resS, if_true, List.nil_append]
    by_cases hb : (s.size : Int) > 1023
    · rw [decide_eq_true hb]
      refine Ev.step (f := fun _ => some false) (fun k => by simp only [wharfref03_text.j0, if_true]) ?_
      exact Ev.now _
    · rw [decide_eq_false hb]
      refine Ev.step (f := fun k => wharfref03_text.l0 k (cs.map fun c : Nat => (c : Int)) 0) (fun k => by simp only [wharfref03_text.j0, Bool.false_eq_true, if_false]) ?_
      have hcl := signs_len _ _ _ ho
      rw [U.len_data] at hcl
      have h := text_loop cs (by omega) cs.length 0 (by omega)
      rw [List.drop_zero, all_signs _ _ _ ho] at h
      exact h

theorem u8_eq (b c : UInt8) : ((b.toNat : Int) = (c.toNat : Int)) ↔ b = c := by rw [← UInt8.toNat_inj]; omega
theorem bt_get (s : ByteArray) (i : Nat) (h : i < s.size) (j : Int) (hj : j = i) : bt s j = ((s[i].toNat : Nat) : Int) := by
  subst hj; unfold bt; rw [dif_pos (by simpa using h)]; rfl
theorem in_loop (s : ByteArray) (c : UInt8) (hs : s.size < 9000000000000000000) : ∀ (d i : Nat), i + d = s.size →
    Ev (fun k => wharfref03_in.l0 k (c.toNat : Int) s (i : Int)) ((s.data.toList.drop i).contains c) := by
  intro d
  induction d with
  | zero =>
    intro i hi
    refine Ev.step (fun k => ?_) (Ev.now _)
    simp only [wharfref03_in.l0]
    rw [if_neg (by omega), List.drop_of_length_le (by rw [U.len_data]; omega)]; rfl
  | succ d ih =>
    intro i hi
    rw [U.u8_at s i (by omega), List.contains_cons]
    by_cases h : s[i] = c
    · refine Ev.step (fun k => ?_) (Ev.now _)
      simp only [wharfref03_in.l0]
      rw [if_pos (by omega), if_pos (by omega), bt_get s i (by omega) _ rfl, if_pos (by rw [u8_eq]; exact h), h]; simp
    · have e : (c == s[i]) = false := by rw [beq_eq_false_iff_ne]; exact fun h2 => h h2.symm
      rw [e, Bool.false_or]
      refine Ev.step (fun k => ?_) (ih (i + 1) (by omega))
      simp only [wharfref03_in.l0]
      rw [if_pos (by omega), if_pos (by omega), bt_get s i (by omega) _ rfl, if_neg (by rw [u8_eq]; exact h), w64 _ (by omega) (by omega)]; rfl
theorem in_ev (s : ByteArray) (c : UInt8) (hs : s.size < 9000000000000000000) : Ev (fun k => wharfref03_in.f k (c.toNat : Int) s) (s.data.toList.contains c) := by
  have := in_loop s c hs s.size 0 (by omega)
  rw [List.drop_zero] at this
  exact this
/-- The place of a byte; -1: it is not there. -/
def place (c : UInt8) (l : List UInt8) : Int := if l.contains c then ((Strs.foreB c l).length : Int) else -1
theorem first_loop (s : ByteArray) (c : UInt8) (hs : s.size < 9000000000000000000) : ∀ (d i : Nat), i + d = s.size →
    Ev (fun k => wharfref03_first.l0 k s (c.toNat : Int) (i : Int)) (if (s.data.toList.drop i).contains c then (i : Int) + ((Strs.foreB c (s.data.toList.drop i)).length : Int) else -1) := by
  intro d
  induction d with
  | zero =>
    intro i hi
    refine Ev.step (fun k => ?_) (Ev.now _)
    simp only [wharfref03_first.l0]
    rw [if_neg (by omega), List.drop_of_length_le (by rw [U.len_data]; omega)]; rfl
  | succ d ih =>
    intro i hi
    rw [U.u8_at s i (by omega), List.contains_cons]
    by_cases h : s[i] = c
    · refine Ev.step (fun k => ?_) (Ev.now _)
      simp only [wharfref03_first.l0]
      rw [if_pos (by omega), if_pos (by omega), bt_get s i (by omega) _ rfl, if_pos (by rw [u8_eq]; exact h), h]; simp [Strs.foreB]
    · have e : (c == s[i]) = false := by rw [beq_eq_false_iff_ne]; exact fun h2 => h h2.symm
      have hf : Strs.foreB c (s[i] :: s.data.toList.drop (i + 1)) = s[i] :: Strs.foreB c (s.data.toList.drop (i + 1)) := by
        have : (s[i] != c) = true := by rw [bne_iff_ne]; exact h
        simp [Strs.foreB, this]
      rw [e, Bool.false_or, hf]
      refine cast (congrArg _ ?_) (Ev.step (g := fun k => wharfref03_first.l0 k s (c.toNat : Int) (i : Int)) (fun k => ?_) (ih (i + 1) (by omega)))
      · split
        · simp; omega
        · rfl
      · simp only [wharfref03_first.l0]
        rw [if_pos (by omega), if_pos (by omega), bt_get s i (by omega) _ rfl, if_neg (by rw [u8_eq]; exact h), w64 _ (by omega) (by omega)]; rfl
theorem first3_ev (s : ByteArray) (c : UInt8) (hs : s.size < 9000000000000000000) : Ev (fun k => wharfref03_first.f k s (c.toNat : Int)) (place c s.data.toList) := by
  have := first_loop s c hs s.size 0 (by omega)
  rw [List.drop_zero] at this
  refine cast (congrArg _ ?_) this
  unfold place; split <;> simp
theorem getLast_at (l : List UInt8) (h : 0 < l.length) : l.getLast? = some (l[l.length - 1]'(by omega)) := by
  rw [List.getLast?_eq_getElem?, List.getElem?_eq_getElem (by omega)]
theorem norm_eq (a b c : ByteArray) (ha : a.size ≤ F.lim) (hb : b.size ≤ F.lim) : wharfref03_Norm.f a b c = some (⟨(a.data.toList.map Gly.low).toArray⟩, ⟨(trimPoint (b.data.toList.map Gly.low)).toArray⟩, c) := by
  unfold wharfref03_Norm.f F.wharfref01_Fold.f
  rw [if_pos ha, if_pos hb]
  simp only [Option.bind_some]
  obtain ⟨Y, hY⟩ : ∃ Y : ByteArray, Y = ⟨(b.data.toList.map Gly.low).toArray⟩ := ⟨_, rfl⟩
  have hd : Y.data.toList = b.data.toList.map Gly.low := by rw [hY]
  have hz : Y.size = b.size := by rw [← U.len_data, hd, List.length_map, U.len_data]
  rw [← hY, ← hd]
  unfold F.lim at hb
  by_cases h0 : (Y.size : Int) > 0
  · have g1 : 0 ≤ (Y.size : Int) - 1 := by omega
    have g2 : (Y.size : Int) - 1 < (Y.size : Int) := by omega
    have g3 : (Y.size : Int) - 1 ≤ (Y.size : Int) := by omega
    rw [if_pos h0, w64 ((Y.size : Int) - 1) (by omega) (by omega), if_pos g1, if_pos g2, if_pos g3, bt_get Y (Y.size - 1) (by omega) _ (by omega)]
    have hg := getLast_at Y.data.toList (by rw [U.len_data]; omega)
    have hg2 : Y.data.toList[Y.data.toList.length - 1]'(by rw [U.len_data]; omega) = Y[Y.size - 1]'(by omega) := by
      simp only [U.len_data]; rfl
    unfold trimPoint
    rw [hg, hg2]
    by_cases h46 : Y[Y.size - 1]'(by omega) = 46
    · rw [if_pos (by rw [h46]; rfl), if_pos (by rw [h46]), List.dropLast_eq_take]
      have : (Y.extract 0 ((Y.size : Int) - 1).toNat) = ⟨(Y.data.toList.take (Y.data.toList.length - 1)).toArray⟩ := by
        apply U.mk_data
        rw [U.take_data, U.len_data]
        congr 1; omega
      rw [this]
    · rw [if_neg (by intro h; exact h46 ((u8_eq _ 46).mp h)), if_neg (by intro h; exact h46 (Option.some.inj h))]
  · rw [if_neg h0]
    have e : Y.data.toList = [] := List.eq_nil_of_length_eq_zero (by rw [U.len_data]; omega)
    unfold trimPoint
    rw [e]
    simp
    exact U.mk_data Y _ e
end Go.Proofs.YthifpbaebbodoaaDoor.RaP
