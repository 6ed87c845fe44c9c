/- wharfref03.Is and Put at this translation: walks. -/
import Derived.Test.YthifpbaebbodoaaDoorRaQ
import Derived.Test.YthifpbaebbodoaaDoorJidL
import Derived.Test.YthifpbaebbodoaaDoorJidQ
set_option linter.unusedVariables false
set_option linter.unusedSimpArgs false
namespace Go.Proofs.YthifpbaebbodoaaDoor.Jid
open Go.RowKit GlyP Gly Strs JidP

/-! ### plain -/
def domOk : Bool → List UInt8 → Bool
  | p, [] => !p
  | p, x :: l => if x = 46 then !p && domOk true l else labelB x && domOk false l
theorem pieces_dom : ∀ l, ∃ q qs, pieces 46 l = q :: qs ∧ domOk false l = (q.all labelB && qs.all isLabel) ∧ domOk true l = (isLabel q && qs.all isLabel)
  | [] => ⟨[], [], rfl, rfl, rfl⟩
  | x :: l => by
    obtain ⟨q, qs, h1, h2, h3⟩ := pieces_dom l
    by_cases hx : x = 46
    · refine ⟨[], q :: qs, by simp [pieces, hx, h1], ?_, ?_⟩
      · simp [domOk, hx, h3]
      · simp [domOk, hx, isLabel]
    · refine ⟨x :: q, qs, by simp [pieces, hx, h1], ?_, ?_⟩
      · simp [domOk, hx, h2, Bool.and_assoc]
      · simp [domOk, hx, h2, isLabel, Bool.and_assoc]
theorem pieces_ok (l : List UInt8) : (pieces 46 l).all isLabel = domOk true l := by
  obtain ⟨q, qs, h1, _, h3⟩ := pieces_dom l
  rw [h1, h3]; rfl
theorem label_low (x : UInt8) (h : labelB x = true) : low x = x := by
  unfold low
  rw [if_neg]
  rintro ⟨h1, h2⟩
  rw [UInt8.le_iff_toNat_le] at h1 h2
  unfold labelB at h
  simp [UInt8.le_iff_toNat_le, ← UInt8.toNat_inj] at h
  simp at h1 h2
  omega
theorem dom_low : ∀ (l : List UInt8) (p : Bool), domOk p l = true → l.map low = l ∧ (l ≠ [] → l.getLast? ≠ some 46) ∧ (l = [] → p = false)
  | [], p, h => ⟨rfl, fun h => absurd rfl h, fun _ => by cases p <;> simp_all [domOk]⟩
  | x :: l, p, h => by
    simp only [domOk] at h
    by_cases hx : x = 46
    · rw [if_pos hx, Bool.and_eq_true] at h
      obtain ⟨ih1, ih2, ih3⟩ := dom_low l true h.2
      have hne : l ≠ [] := fun e => by have := ih3 e; cases this
      refine ⟨by rw [List.map_cons, ih1, hx]; rfl, fun _ => ?_, fun h => by cases h⟩
      rw [List.getLast?_cons]
      have := ih2 hne
      cases hq : l.getLast? with
      | none => rw [List.getLast?_eq_none_iff] at hq; exact absurd hq hne
      | some y => rw [hq] at this; simpa using this
    · rw [if_neg hx, Bool.and_eq_true] at h
      obtain ⟨ih1, ih2, ih3⟩ := dom_low l false h.2
      refine ⟨by rw [List.map_cons, ih1, label_low x h.1], fun _ => ?_, fun h => by cases h⟩
      rw [List.getLast?_cons]
      cases hq : l.getLast? with
      | none => simpa using hx
      | some y =>
        have hne : l ≠ [] := fun e => by rw [e] at hq; cases hq
        have := ih2 hne
        rw [hq] at this; simpa using this
def nodeR (l : List UInt8) : Bool := l.all fun c => !(nodeBad.contains c) && !(decide (65 ≤ c) && decide (c ≤ 90))
theorem low_iff (x : UInt8) : (low x = x) ↔ ¬ (65 ≤ x ∧ x ≤ 90) := by
  unfold low
  constructor
  · intro h hc
    rw [if_pos hc] at h
    have h2 := congrArg UInt8.toNat h
    rw [UInt8.toNat_add] at h2
    have := x.toNat_lt
    simp at h2; omega
  · intro h; rw [if_neg h]
theorem map_low_iff (l : List UInt8) : (l.map low = l) ↔ ∀ x ∈ l, ¬ (65 ≤ x ∧ x ≤ 90) := by
  constructor
  · intro h x hx
    rw [← low_iff]
    obtain ⟨i, hi, rfl⟩ := List.getElem_of_mem hx
    have := congrArg (fun m => m[i]?) h
    simp [List.getElem?_eq_getElem hi] at this
    exact this
  · intro h
    conv => rhs; rw [← List.map_id l]
    exact List.map_congr_left fun x hx => (low_iff x).mpr (h x hx)
theorem ok_eq (j : J) : ok j = (isPart j.n && (isPart j.d && (isPart j.r && (nodeR j.n && domOk true j.d)))) := by
  unfold ok
  rw [pieces_ok]
  cases hd : domOk true j.d with
  | false => simp
  | true =>
    obtain ⟨h1, h2, h3⟩ := dom_low _ _ hd
    have hne : j.d ≠ [] := fun e => by have := h3 e; cases this
    have ht : trimPoint (j.d.map low) = j.d := by
      rw [h1]; unfold trimPoint; rw [if_neg (h2 hne)]
    have hn : (norm j == j) = decide (j.n.map low = j.n) := by
      unfold norm
      rw [ht, Bool.eq_iff_iff, beq_iff_eq, decide_eq_true_eq]
      constructor
      · intro h; exact congrArg J.n h
      · intro h; cases j; simp_all
    have hr : nodeR j.n = (decide (j.n.map low = j.n) && isNode j.n) := by
      rw [Bool.eq_iff_iff, Bool.and_eq_true, decide_eq_true_eq, map_low_iff]
      unfold nodeR isNode
      rw [List.all_eq_true, List.all_eq_true]
      constructor
      · intro h
        refine ⟨fun x hx => ?_, fun x hx => ?_⟩
        · have := h x hx
          rw [Bool.and_eq_true, Bool.not_eq_true', Bool.not_eq_true', Bool.and_eq_false_iff, decide_eq_false_iff_not, decide_eq_false_iff_not] at this
          rintro ⟨c1, c2⟩
          rcases this.2 with h | h
          · exact h c1
          · exact h c2
        · have := h x hx
          rw [Bool.and_eq_true] at this
          exact this.1
      · rintro ⟨ha, hb⟩ x hx
        rw [Bool.and_eq_true]
        refine ⟨hb x hx, ?_⟩
        have := ha x hx
        rw [Bool.not_eq_true', Bool.and_eq_false_iff, decide_eq_false_iff_not, decide_eq_false_iff_not]
        by_cases h65 : 65 ≤ x
        · exact .inr fun h90 => this ⟨h65, h90⟩
        · exact .inl h65
    rw [hn, hr]
    generalize isPart j.n = x1
    generalize isPart j.d = x2
    generalize isPart j.r = x3
    generalize isNode j.n = x4
    generalize decide (j.n.map low = j.n) = x5
    cases x1 <;> cases x2 <;> cases x3 <;> cases x4 <;> cases x5 <;> rfl

/-! ### the callees -/
abbrev RTextSays (s : ByteArray) (r : Bool) : Prop := Hid (∀ w, Calls Tryd.prog 30 #[.string s] w fun e w' => e = .returned (.bool r) ∧ Below w.heap.size w w')
theorem rtext (s : ByteArray) (hs : s.size ≤ 68719476736) (r : Bool) (h : isPart s.data.toList = r) : RTextSays s r := Lib.hid fun w => by
  obtain ⟨k, hk⟩ := (RaP.text_ev s (by omega)).rounds
  subst h
  exact Ra.wharfref03_text.calls k s _ w hk
theorem rin (c : UInt8) (n : Int) (hn : n = (c.toNat : Int)) (w : World) :
    Calls Tryd.prog 31 #[.int .u8 n, .string ⟨#[32, 34, 38, 39, 47, 58, 60, 62, 64]⟩] w fun e w' => e = .returned (.bool (nodeBad.contains c)) ∧ ∃ m, w' = w.drewN m := by
  obtain ⟨k, hk⟩ := (RaP.in_ev ⟨#[32, 34, 38, 39, 47, 58, 60, 62, 64]⟩ c (by decide)).rounds
  subst hn
  exact (Ra.wharfref03_in.calls k _ _ _ w hk).mono fun e w' ⟨h1, h2⟩ => ⟨h1, h2.out⟩

/-- Is the sign ahead of place k a point, or the front? -/
def pd (l : List UInt8) : Nat → Bool
  | 0 => true
  | k + 1 => l.getD k 0 == 46
theorem pd_succ (s : ByteArray) (k : Nat) (h : k < s.size) : pd s.data.toList (k + 1) = (s[k] == 46) := by
  show (s.data.toList.getD k 0 == 46) = _
  rw [List.getD_eq_getElem?_getD, List.getElem?_eq_getElem (by rw [U.len_data]; exact h)]; rfl
theorem dom_step (s : ByteArray) (k : Nat) (h : k < s.size) (p : Bool) : domOk p (s.data.toList.drop k) = if s[k] = 46 then !p && domOk true (s.data.toList.drop (k + 1)) else labelB s[k] && domOk false (s.data.toList.drop (k + 1)) := by
  rw [U.u8_at s k h]; rfl
theorem dom_end (s : ByteArray) (k : Nat) (h : k = s.size) (p : Bool) : domOk p (s.data.toList.drop k) = !p := by
  rw [h, List.drop_eq_nil_of_le (by rw [U.len_data]; omega)]; rfl

/-! ### Is -/
set_option maxHeartbeats 1000000 in
theorem RIs_a (a b c : ByteArray) (HA : RTextSays a false) (w : World) :
    Calls Tryd.prog 15 #[.agg #[.string a, .string b, .string c]] w fun e w' => e = .returned (.bool false) ∧ Below w.heap.size w w' := by
  have K0 := Lib.hid ((Keep.start w).alloc a b c)
  go_enter Tryd.func15, Tryd.ntmps15
  go_wp2_with fail
  refine (HA.out _).mono ?_
  rintro e w1 ⟨rfl, hb1⟩
  have K1 := Lib.hid (K0.out.below hb1)
  clear hb1
  go_wp2
  go_ret
  exact ⟨rfl, K1.out.low⟩
set_option maxHeartbeats 1000000 in
theorem RIs_b (a b c : ByteArray) (HA : RTextSays a true) (HB : RTextSays b false) (w : World) :
    Calls Tryd.prog 15 #[.agg #[.string a, .string b, .string c]] w fun e w' => e = .returned (.bool false) ∧ Below w.heap.size w w' := by
  have K0 := Lib.hid ((Keep.start w).alloc a b c)
  go_enter Tryd.func15, Tryd.ntmps15
  go_wp2_with fail
  refine (HA.out _).mono ?_
  rintro e w1 ⟨rfl, hb1⟩
  have K1 := Lib.hid (K0.out.below hb1)
  obtain ⟨c0, c1, c2⟩ := K1.out.box w.heap.size _ _ _ List.mem_cons_self
  clear hb1
  go_wp2_with fail
  refine (HB.out _).mono ?_
  rintro e w2 ⟨rfl, hb2⟩
  have K2 := Lib.hid (K1.out.below hb2)
  clear hb2
  go_wp2
  go_ret
  exact ⟨rfl, K2.out.low⟩
set_option maxHeartbeats 1000000 in
theorem RIs_c (a b c : ByteArray) (HA : RTextSays a true) (HB : RTextSays b true) (HC : RTextSays c false) (w : World) :
    Calls Tryd.prog 15 #[.agg #[.string a, .string b, .string c]] w fun e w' => e = .returned (.bool false) ∧ Below w.heap.size w w' := by
  have K0 := Lib.hid ((Keep.start w).alloc a b c)
  go_enter Tryd.func15, Tryd.ntmps15
  go_wp2_with fail
  refine (HA.out _).mono ?_
  rintro e w1 ⟨rfl, hb1⟩
  have K1 := Lib.hid (K0.out.below hb1)
  obtain ⟨c0, c1, c2⟩ := K1.out.box w.heap.size _ _ _ List.mem_cons_self
  clear hb1
  go_wp2_with fail
  refine (HB.out _).mono ?_
  rintro e w2 ⟨rfl, hb2⟩
  have K2 := Lib.hid (K1.out.below hb2)
  obtain ⟨d0, d1, d2⟩ := K2.out.box w.heap.size _ _ _ List.mem_cons_self
  clear hb2 c0 c1 c2
  go_wp2_with fail
  refine (HC.out _).mono ?_
  rintro e w3 ⟨rfl, hb3⟩
  have K3 := Lib.hid (K2.out.below hb3)
  clear hb3 d0 d1 d2
  go_wp2
  go_ret
  exact ⟨rfl, K3.out.low⟩
theorem nodeR_at (s : ByteArray) (k : Nat) (h : k < s.size) : (s.data.toList.drop k).all (fun c => !(nodeBad.contains c) && !(decide (65 ≤ c) && decide (c ≤ 90))) = ((!(nodeBad.contains s[k]) && !(decide (65 ≤ s[k]) && decide (s[k] ≤ 90))) && (s.data.toList.drop (k + 1)).all (fun c => !(nodeBad.contains c) && !(decide (65 ≤ c) && decide (c ≤ 90)))) := by
  rw [U.u8_at s k h]; rfl
theorem up_int (c : UInt8) : (decide (65 ≤ c) && decide (c ≤ 90)) = (decide (65 ≤ (c.toNat : Int)) && decide ((c.toNat : Int) ≤ 90)) := by
  have e1 : (65 ≤ c) ↔ ((65 : Int) ≤ (c.toNat : Int)) := by rw [UInt8.le_iff_toNat_le]; simp; omega
  have e2 : (c ≤ 90) ↔ ((c.toNat : Int) ≤ 90) := by rw [UInt8.le_iff_toNat_le]; simp; omega
  rw [decide_eq_decide.2 e1, decide_eq_decide.2 e2]
def rest (b : ByteArray) (k : Nat) : Prop := domOk (pd b.data.toList k) (b.data.toList.drop k) = domOk true b.data.toList ∧ (0 < k → k = b.size → pd b.data.toList k = false)
theorem rest_0 (b : ByteArray) : rest b 0 := ⟨rfl, fun h => by omega⟩
theorem rest_label (b : ByteArray) (k : Nat) (hk : k < b.size) (h : rest b k) (hl : labelB b[k] = true) : rest b (k + 1) := by
  have hne : ¬ b[k] = 46 := fun e => by rw [e] at hl; revert hl; decide
  have hp : pd b.data.toList (k + 1) = false := by rw [pd_succ b k hk, beq_eq_false_iff_ne]; exact hne
  refine ⟨?_, fun _ _ => hp⟩
  rw [← h.1, dom_step b k hk, if_neg hne, hl, hp]; rfl
theorem rest_point (b : ByteArray) (k : Nat) (hk : k < b.size) (h : rest b k) (hl : b[k] = 46) (hp : pd b.data.toList k = false) (hn : k + 1 < b.size) : rest b (k + 1) := by
  have hp2 : pd b.data.toList (k + 1) = true := by rw [pd_succ b k hk, hl]; rfl
  refine ⟨?_, fun _ h => by omega⟩
  rw [← h.1, dom_step b k hk, if_pos hl, hp, hp2]; rfl
theorem rest_no1 (b : ByteArray) (k : Nat) (hk : k < b.size) (h : rest b k) (hl : b[k] = 46) (hp : pd b.data.toList k = true) : domOk true b.data.toList = false := by
  rw [← h.1, dom_step b k hk, if_pos hl, hp]; rfl
theorem rest_no2 (b : ByteArray) (k : Nat) (hk : k < b.size) (h : rest b k) (hl : b[k] = 46) (hn : k + 1 = b.size) : domOk true b.data.toList = false := by
  rw [← h.1, dom_step b k hk, if_pos hl, dom_end b (k + 1) hn]; simp
theorem rest_no3 (b : ByteArray) (k : Nat) (hk : k < b.size) (h : rest b k) (hl : ¬ b[k] = 46) (hp : labelB b[k] = false) : domOk true b.data.toList = false := by
  rw [← h.1, dom_step b k hk, if_neg hl, hp]; rfl
theorem rest_end (b : ByteArray) (k : Nat) (hk : k = b.size) (h0 : 0 < b.size) (h : rest b k) : domOk true b.data.toList = true := by
  rw [← h.1, dom_end b k hk, h.2 (by omega) hk]; rfl

set_option maxHeartbeats 1000000 in
theorem RIs_d (a b c : ByteArray) (HA : RTextSays a true) (HB : RTextSays b true) (HC : RTextSays c true) (hz : b.size = 0) (w : World) :
    Calls Tryd.prog 15 #[.agg #[.string a, .string b, .string c]] w fun e w' => e = .returned (.bool false) ∧ Below w.heap.size w w' := by
  have K0 := Lib.hid ((Keep.start w).alloc a b c)
  have e1 := U.toList_nil b hz
  clear hz
  go_enter Tryd.func15, Tryd.ntmps15
  go_wp2_with fail
  refine (HA.out _).mono ?_
  rintro e w1 ⟨rfl, hb1⟩
  have K1 := Lib.hid (K0.out.below hb1)
  obtain ⟨c0, c1, c2⟩ := K1.out.box w.heap.size _ _ _ List.mem_cons_self
  clear hb1
  go_wp2_with fail
  refine (HB.out _).mono ?_
  rintro e w2 ⟨rfl, hb2⟩
  have K2 := Lib.hid (K1.out.below hb2)
  obtain ⟨d0, d1, d2⟩ := K2.out.box w.heap.size _ _ _ List.mem_cons_self
  clear hb2 c0 c1 c2
  go_wp2_with fail
  refine (HC.out _).mono ?_
  rintro e w3 ⟨rfl, hb3⟩
  have K3 := Lib.hid (K2.out.below hb3)
  obtain ⟨f0, f1, f2⟩ := K3.out.box w.heap.size _ _ _ List.mem_cons_self
  clear hb3 d0 d1 d2
  go_wp2
  go_ret
  exact ⟨rfl, K3.out.low⟩

set_option maxRecDepth 100000 in
set_option maxHeartbeats 4000000 in
theorem RIs_main (a b c : ByteArray) (HA : RTextSays a true) (HB : RTextSays b true) (HC : RTextSays c true) (hz : 0 < b.size) (hsa : a.size ≤ 68719476736) (hsb : b.size ≤ 68719476736) (w : World) :
    Calls Tryd.prog 15 #[.agg #[.string a, .string b, .string c]] w fun e w' => e = .returned (.bool (nodeR a.data.toList && domOk true b.data.toList)) ∧ Below w.heap.size w w' := by
  have K0 := Lib.hid ((Keep.start w).alloc a b c)
  have e1 := U.isEmpty_false b hz
  go_enter Tryd.func15, Tryd.ntmps15
  go_wp2_with fail
  refine (HA.out _).mono ?_
  rintro e w1 ⟨rfl, hb1⟩
  have K1 := Lib.hid (K0.out.below hb1)
  obtain ⟨c0, c1, c2⟩ := K1.out.box w.heap.size _ _ _ List.mem_cons_self
  clear hb1
  go_wp2_with fail
  refine (HB.out _).mono ?_
  rintro e w2 ⟨rfl, hb2⟩
  have K2 := Lib.hid (K1.out.below hb2)
  obtain ⟨d0, d1, d2⟩ := K2.out.box w.heap.size _ _ _ List.mem_cons_self
  clear hb2 c0 c1 c2
  go_wp2_with fail
  refine (HC.out _).mono ?_
  rintro e w3 ⟨rfl, hb3⟩
  have K3 := Lib.hid (K2.out.below hb3)
  obtain ⟨f0, f1, f2⟩ := K3.out.box w.heap.size _ _ _ List.mem_cons_self
  clear hb3 d0 d1 d2
  go_wp2_with fail
  clear e1 f0 f1 f2
  go_loopw [3] (fun i wr => ∃ k : Nat, k ≤ a.size ∧ i = .int .i64 k ∧ Hid (nodeR a.data.toList = (a.data.toList.drop k).all (fun c => !(nodeBad.contains c) && !(decide (65 ≤ c) && decide (c ≤ 90)))) ∧ Hid (Keep w [(w.heap.size, a, b, c)] wr)) (fun i _ => a.size - (intOf i).toNat)
  case atStart => exact ⟨0, by omega, rfl, Lib.hid rfl, K3⟩
  case round =>
    obtain ⟨k, hk, rfl, HN, KR⟩ := hrel
    obtain ⟨f0, f1, f2⟩ := KR.out.box w.heap.size _ _ _ List.mem_cons_self
    by_cases hlt : k < a.size
    · have HS := Lib.hid (nodeR_at a k hlt)
      have HU := Lib.hid (up_int a[k])
      go_wp2_with fail
      refine (rin a[k] _ rfl _).mono ?_
      rintro e w4 ⟨rfl, ⟨m, rfl⟩⟩
      have KM := Lib.hid (show Keep w [(w.heap.size, a, b, c)] (wr.drewN m) from ⟨fun p hp => U.At.drewN (KR.out.cells p hp) m, U.below_drewN KR.out.low m⟩)
      cases hn : nodeBad.contains a[k] with
      | true =>
        have HV := Lib.hid (show nodeR a.data.toList = false from by rw [HN.out, HS.out, hn]; rfl)
        clear hn
        go_wp2
        go_ret
        exact ⟨by rw [HV.out]; rfl, KM.out.low⟩
      | false =>
        have HX := Lib.hid hn
        clear hn
        by_cases h65 : (a[k].toNat : Int) < 65
        · have HY := Lib.hid (show (decide (65 ≤ a[k]) && decide (a[k] ≤ 90)) = false from by rw [HU.out, decide_eq_false (by omega)]; rfl)
          go_wp2
          go_roundw
          case rel => exact ⟨k + 1, by omega, by go_num, Lib.hid (by rw [HN.out, HS.out, HX.out, HY.out]; rfl), KM⟩
          case measure => simp [intOf]; omega
        · by_cases h90 : (90 : Int) < (a[k].toNat : Int)
          · have HY := Lib.hid (show (decide (65 ≤ a[k]) && decide (a[k] ≤ 90)) = false from by rw [HU.out, decide_eq_false (show ¬ (a[k].toNat : Int) ≤ 90 by omega), Bool.and_false])
            go_wp2
            go_roundw
            case rel => exact ⟨k + 1, by omega, by go_num, Lib.hid (by rw [HN.out, HS.out, HX.out, HY.out]; rfl), KM⟩
            case measure => simp [intOf]; omega
          · have HV := Lib.hid (show nodeR a.data.toList = false from by rw [HN.out, HS.out, HX.out, HU.out, decide_eq_true (show (65 : Int) ≤ (a[k].toNat : Int) by omega), decide_eq_true (show (a[k].toNat : Int) ≤ 90 by omega)]; rfl)
            go_wp2
            go_ret
            exact ⟨by rw [HV.out]; rfl, KM.out.low⟩
    · have hkk : k = a.size := by omega
      have HV := Lib.hid (show nodeR a.data.toList = true from by rw [HN.out]; exact all_end a k hkk _)
      clear hkk
      go_wp2_with fail
      clear f0 f1 f2
      go_loop [5] (fun i => ∃ k : Nat, k ≤ b.size ∧ i = .int .i64 k ∧ Hid (rest b k)) (fun i => b.size - (intOf i).toNat)
      case atStart => exact ⟨0, by omega, rfl, Lib.hid (rest_0 b)⟩
      case round =>
        obtain ⟨j, hj, rfl, HR⟩ := hrel
        by_cases hjl : j < b.size
        · have HL := Lib.hid (label_int b[j])
          have hl46 : (b[j].toNat : Int) ≠ 46 → ¬ b[j] = 46 := fun h e => h (by rw [e]; rfl)
          by_cases h97 : (b[j].toNat : Int) < 97
          · by_cases h48 : (b[j].toNat : Int) < 48
            · by_cases h45 : (b[j].toNat : Int) = 45
              · have HB := Lib.hid (show labelB b[j] = true from by rw [HL.out, h45]; rfl)
                clear hl46 h97 h48
                go_wp2
                go_round
                case rel => exact ⟨j + 1, by omega, by go_num, Lib.hid (rest_label b j hjl HR.out HB.out)⟩
                case measure => simp [intOf]; omega
              · by_cases h46 : (b[j].toNat : Int) = 46
                · have HP := Lib.hid (show b[j] = 46 from by rw [← UInt8.toNat_inj]; have : (46 : UInt8).toNat = 46 := rfl; omega)
                  clear hl46 h97 h48 h45
                  rcases Nat.eq_zero_or_pos j with hj0 | hj0
                  · have HW := Lib.hid (rest_no1 b j hjl HR.out HP.out (by rw [hj0]; rfl))
                    subst hj0
                    go_wp2
                    go_ret
                    exact ⟨by (rw [HW.out, Bool.and_false]; try rfl), KR.out.low⟩
                  · obtain ⟨i, rfl⟩ : ∃ i, j = i + 1 := ⟨j - 1, by omega⟩
                    by_cases hend : i + 2 = b.size
                    · have HW := Lib.hid (rest_no2 b (i + 1) hjl HR.out HP.out (by omega))
                      have g1 : (((i : Int) + 1) == 0) = false := by rw [beq_eq_false_iff_ne]; omega
                      have g2 : (((i : Int) + 1) == (b.size : Int) - 1) = true := by rw [beq_iff_eq]; omega
                      clear hend
                      go_wp2
                      go_ret
                      exact ⟨by (rw [HW.out, Bool.and_false]; try rfl), KR.out.low⟩
                    · have g1 : (((i : Int) + 1) == 0) = false := by rw [beq_eq_false_iff_ne]; omega
                      have g2 : (((i : Int) + 1) == (b.size : Int) - 1) = false := by rw [beq_eq_false_iff_ne]; omega
                      have hps := pd_succ b i (by omega)
                      cases hp : (b[i] == 46) with
                      | true =>
                        have HW := Lib.hid (rest_no1 b (i + 1) hjl HR.out HP.out (by rw [hps, hp]))
                        have g3 : ((b[i].toNat : Int) == 46) = true := by rw [beq_iff_eq] at hp ⊢; rw [hp]; rfl
                        clear hp hps hend
                        go_wp2
                        go_ret
                        exact ⟨by (rw [HW.out, Bool.and_false]; try rfl), KR.out.low⟩
                      | false =>
                        have HW := Lib.hid (rest_point b (i + 1) hjl HR.out HP.out (by rw [hps, hp]) (by omega))
                        have g3 : ((b[i].toNat : Int) == 46) = false := by rw [beq_eq_false_iff_ne] at hp ⊢; intro h; apply hp; rw [← UInt8.toNat_inj]; have : (46 : UInt8).toNat = 46 := rfl; omega
                        clear hp hps hend
                        go_wp2
                        go_round
                        case rel => exact ⟨i + 1 + 1, by omega, by go_num, HW⟩
                        case measure => simp [intOf]; omega
                · have HW := Lib.hid (rest_no3 b j hjl HR.out (hl46 h46) (by rw [HL.out, decide_eq_false (show ¬ (97 : Int) ≤ (b[j].toNat : Int) by omega), decide_eq_false (show ¬ (48 : Int) ≤ (b[j].toNat : Int) by omega), show ((b[j].toNat : Int) == 45) = false from by rw [beq_eq_false_iff_ne]; exact h45]; rfl))
                  have q45 : ((b[j].toNat : Int) == 45) = false := by rw [beq_eq_false_iff_ne]; exact h45
                  have q46 : ((b[j].toNat : Int) == 46) = false := by rw [beq_eq_false_iff_ne]; exact h46
                  clear hl46
                  go_wp2
                  go_ret
                  exact ⟨by (rw [HW.out, Bool.and_false]; try rfl), KR.out.low⟩
            · by_cases h57 : (57 : Int) < (b[j].toNat : Int)
              · have q45 : ((b[j].toNat : Int) == 45) = false := by rw [beq_eq_false_iff_ne]; omega
                have q46 : ((b[j].toNat : Int) == 46) = false := by rw [beq_eq_false_iff_ne]; omega
                have HW := Lib.hid (rest_no3 b j hjl HR.out (hl46 (by omega)) (by rw [HL.out, decide_eq_false (show ¬ (97 : Int) ≤ (b[j].toNat : Int) by omega), decide_eq_false (show ¬ (b[j].toNat : Int) ≤ 57 by omega), q45, Bool.and_false]; rfl))
                clear hl46
                go_wp2
                go_ret
                exact ⟨by (rw [HW.out, Bool.and_false]; try rfl), KR.out.low⟩
              · have q45 : ((b[j].toNat : Int) == 45) = false := by rw [beq_eq_false_iff_ne]; omega
                have q46 : ((b[j].toNat : Int) == 46) = false := by rw [beq_eq_false_iff_ne]; omega
                have HB := Lib.hid (show labelB b[j] = true from by rw [HL.out, decide_eq_true (show (48 : Int) ≤ (b[j].toNat : Int) by omega), decide_eq_true (show (b[j].toNat : Int) ≤ 57 by omega)]; simp)
                clear hl46
                go_wp2
                go_round
                case rel => exact ⟨j + 1, by omega, by go_num, Lib.hid (rest_label b j hjl HR.out HB.out)⟩
                case measure => simp [intOf]; omega
          · have q45 : ((b[j].toNat : Int) == 45) = false := by rw [beq_eq_false_iff_ne]; omega
            have q46 : ((b[j].toNat : Int) == 46) = false := by rw [beq_eq_false_iff_ne]; omega
            have q57 : (57 : Int) < (b[j].toNat : Int) := by omega
            have q48 : ¬ (b[j].toNat : Int) < 48 := by omega
            by_cases h122 : (122 : Int) < (b[j].toNat : Int)
            · have HW := Lib.hid (rest_no3 b j hjl HR.out (hl46 (by omega)) (by rw [HL.out, decide_eq_false (show ¬ (b[j].toNat : Int) ≤ 122 by omega), decide_eq_false (show ¬ (b[j].toNat : Int) ≤ 57 by omega), q45, Bool.and_false, Bool.and_false]; rfl))
              clear hl46
              go_wp2
              go_ret
              exact ⟨by (rw [HW.out, Bool.and_false]; try rfl), KR.out.low⟩
            · have HB := Lib.hid (show labelB b[j] = true from by rw [HL.out, decide_eq_true (show (97 : Int) ≤ (b[j].toNat : Int) by omega), decide_eq_true (show (b[j].toNat : Int) ≤ 122 by omega)]; rfl)
              clear hl46
              go_wp2
              go_round
              case rel => exact ⟨j + 1, by omega, by go_num, Lib.hid (rest_label b j hjl HR.out HB.out)⟩
              case measure => simp [intOf]; omega
        · have hjj : j = b.size := by omega
          have HD := Lib.hid (rest_end b j hjj hz HR.out)
          clear hjj
          go_wp2
          go_ret
          exact ⟨by rw [HV.out, HD.out]; rfl, KR.out.low⟩

theorem RIs_any (a b c : ByteArray) (ha : a.size ≤ 68719476736) (hb : b.size ≤ 68719476736) (hc : c.size ≤ 68719476736) (w : World) :
    Calls Tryd.prog 15 #[.agg #[.string a, .string b, .string c]] w fun e w' => e = .returned (.bool (ok (jOf a b c))) ∧ Below w.heap.size w w' := by
  rw [ok_eq]
  unfold jOf
  simp only
  cases h1 : isPart a.data.toList with
  | false => exact RIs_a a b c (rtext a ha _ h1) w
  | true =>
    cases h2 : isPart b.data.toList with
    | false => exact RIs_b a b c (rtext a ha _ h1) (rtext b hb _ h2) w
    | true =>
      cases h3 : isPart c.data.toList with
      | false => exact RIs_c a b c (rtext a ha _ h1) (rtext b hb _ h2) (rtext c hc _ h3) w
      | true =>
        rcases Nat.eq_zero_or_pos b.size with hz | hz
        · have e : b.data.toList = [] := by rw [← Lib.toList_data]; exact U.toList_nil b hz
          have := RIs_d a b c (rtext a ha _ h1) (rtext b hb _ h2) (rtext c hc _ h3) hz w
          rw [e]
          simpa [domOk] using this
        · exact RIs_main a b c (rtext a ha _ h1) (rtext b hb _ h2) (rtext c hc _ h3) hz ha hb w

/-! ### Put -/
theorem RPut_any (a b c : ByteArray) (ha : a.size ≤ 68719476736) (hb : b.size ≤ 68719476736) (hc : c.size ≤ 68719476736) (w : World) :
    Calls Tryd.prog 17 #[.agg #[.string a, .string b, .string c]] w fun e w' => e = .returned (.string (putB a b c)) ∧ Below w.heap.size w w' := by
  have hone : (⟨#[64]⟩ : ByteArray).size = 1 := rfl
  have hone2 : (⟨#[47]⟩ : ByteArray).size = 1 := rfl
  rcases Nat.eq_zero_or_pos a.size with h0 | h0
  · have e1 := U.toList_nil a h0
    rcases Nat.eq_zero_or_pos c.size with h1 | h1
    · have e2 := U.toList_nil c h1
      have HV := Lib.hid (show putB a b c = b from by unfold putB; rw [if_pos h0, if_pos h1, app_nil])
      clear h0 h1
      go_enter Tryd.func17, Tryd.ntmps17
      go_wp2
      go_ret
      exact ⟨by rw [HV.out]; rfl, (Below.refl _ w).alloc (Nat.le_refl _) _⟩
    · have e2 := U.isEmpty_false c h1
      have HV := Lib.hid (show putB a b c = b ++ ⟨#[47]⟩ ++ c from by unfold putB; rw [if_pos h0, if_neg (by omega), ByteArray.append_assoc])
      clear h0
      go_enter Tryd.func17, Tryd.ntmps17
      go_wp2
      go_ret
      exact ⟨by rw [HV.out]; rfl, (Below.refl _ w).alloc (Nat.le_refl _) _⟩
  · have e1 := U.isEmpty_false a h0
    rcases Nat.eq_zero_or_pos c.size with h1 | h1
    · have e2 := U.toList_nil c h1
      have HV := Lib.hid (show putB a b c = (a ++ ⟨#[64]⟩) ++ b from by unfold putB; rw [if_neg (by omega), if_pos h1, app_nil])
      clear h1
      go_enter Tryd.func17, Tryd.ntmps17
      go_wp2
      go_ret
      exact ⟨by rw [HV.out]; rfl, (Below.refl _ w).alloc (Nat.le_refl _) _⟩
    · have e2 := U.isEmpty_false c h1
      have HV := Lib.hid (show putB a b c = ((a ++ ⟨#[64]⟩) ++ b) ++ ⟨#[47]⟩ ++ c from by unfold putB; rw [if_neg (by omega), if_neg (by omega), ← ByteArray.append_assoc])
      go_enter Tryd.func17, Tryd.ntmps17
      go_wp2
      go_ret
      exact ⟨by rw [HV.out]; rfl, (Below.refl _ w).alloc (Nat.le_refl _) _⟩
end Go.Proofs.YthifpbaebbodoaaDoor.Jid
