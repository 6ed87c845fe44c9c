/- The two slabs side by side. -/
import Derived.Test.YthpkmcohcjpmhaaSlbU
set_option linter.unusedVariables false
set_option linter.unusedSimpArgs false
namespace Go.Proofs.Ythpkmcohcjpmhaa.Slb
open Go.RowKit U
variable {w w' w0 : World} {s s1 s2 : S} {base rS gS gB : Nat} {v : Value}
def pp (s : S) : S := { s with keep := clamp s.keep }
/-- The program's slab is s1, the reference's is s2. -/
structure J (w0 : World) (gS gB base rS : Nat) (v : Value) (s1 s2 : S) (w : World) : Prop where
  st : Stand w0 gS gB (pp s1) w
  ri : RIs base rS v s2 w
  q1 : gS < base
  q2 : gB < base
  q3 : w0.heap.size ≤ base
theorem J.below (h : J w0 gS gB base rS v s1 s2 w) (hb : Below w.heap.size w w') : J w0 gS gB base rS v s1 s2 w' := ⟨h.st.below hb, h.ri.below hb, h.q1, h.q2, h.q3⟩
theorem J.p {s1' : S} (h : J w0 gS gB base rS v s1 s2 w) (h1 : Stand w0 gS gB (pp s1') w') (h2 : OwnKept gS gB w w') : J w0 gS gB base rS v s1' s2 w' :=
  ⟨h1, ⟨h2 _ _ _ _ _ _ h.q1 h.q2 h.ri.hs, h2 _ _ _ _ _ _ h.q1 h.q2 h.ri.hr, h.ri.ne, h.ri.len⟩, h.q1, h.q2, h.q3⟩
theorem Stand.low' (h : Stand w0 gS gB s w) (hb : Below base w w') (h1 : gS < base) (h2 : gB < base) (h3 : w0.heap.size ≤ base) : Stand w0 gS gB s w' :=
  ⟨⟨(hb.block gS h1).trans h.is.hs, (hb.block gB h2).trans h.is.hb, h.is.ne, h.is.len, h.is.few⟩, h.low.trans (hb.mono h3), h.q1, h.q2⟩
theorem J.r {v' : Value} {s2' : S} (h : J w0 gS gB base rS v s1 s2 w) (h1 : RIs base rS v' s2' w') (h2 : Below base w w') : J w0 gS gB base rS v' s1 s2' w' :=
  ⟨h.st.low' h2 h.q1 h.q2 h.q3, h1, h.q1, h.q2, h.q3⟩
/-- What is known of the numbers. -/
structure Fine (L : Nat) (c : Int) (s : S) : Prop where
  len : s.bs.length = L
  few : L ≤ 20
  a1 : -1 ≤ s.after
  a2 : s.after ≤ 9223372036854775807
  w1 : 0 ≤ s.writes
  w2 : s.writes ≤ c
variable {L : Nat} {c : Int}
theorem stepW_fine (h : Fine L c s) (n : Int) (b : ByteArray) : Fine L (c + 1) (stepW s n b) := by
  have h0 := h.w2
  unfold stepW
  split
  · exact ⟨h.len, h.few, h.a1, h.a2, h.w1, by omega⟩
  · split
    · exact ⟨h.len, h.few, h.a1, h.a2, h.w1, by omega⟩
    · split
      · exact ⟨by simp only [wr_size]; exact h.len, h.few, h.a1, h.a2, h.w1, by show s.writes ≤ c + 1; omega⟩
      · have := h.a1
        have := h.a2
        have := h.w1
        exact ⟨by simp only [List.length_set]; exact h.len, h.few, by show -1 ≤ max (s.after - 1) (-1); omega, by show max (s.after - 1) (-1) ≤ _; omega, by show 0 ≤ s.writes + 1; omega, by show s.writes + 1 ≤ c + 1; omega⟩
theorem PW (h : J w0 gS gB base rS v s s2 w) (hf : Fine L c s) (hc : c ≤ 9000000000000000000) (n : Int) (b : ByteArray) (hb : b.size ≤ 9223372036854775807) :
    Calls Try.prog 12 #[P gS, .int .i64 n, .string b] w fun e w' => e = .returned (.int .i64 (codeW s n b)) ∧ J w0 gS gB base rS v (stepW s n b) s2 w' ∧ OwnKept gS gB w w' := by
  obtain ⟨bs, aft, kp, dd, wri⟩ := s
  obtain ⟨f1, f2, f3, f4, f5, f6⟩ := hf
  simp only at f1 f3 f4 f5 f6
  have hkc : clamp kp = ((clamp kp).toNat : Int) := by unfold clamp; omega
  have hk64 : (clamp kp).toNat ≤ 64 := by unfold clamp; omega
  have hst : Stand w0 gS gB ⟨bs, aft, ((clamp kp).toNat : Int), dd, wri⟩ w := by rw [← hkc]; exact h.st
  unfold codeW stepW
  cases dd with
  | true =>
    simp only [if_true]
    refine (write_dead hst n b).mono fun e w1 ⟨he, hw⟩ => ?_
    subst hw
    exact ⟨he, h, fun _ _ _ _ _ _ _ _ x => x⟩
  | false =>
    simp only [Bool.false_eq_true, if_false]
    by_cases hn : 0 ≤ n ∧ n < (bs.length : Int)
    · obtain ⟨k, rfl⟩ : ∃ k : Nat, n = (k : Int) := ⟨n.toNat, by omega⟩
      by_cases h64 : b.size = 64
      · have hng : ¬ (¬ (0 ≤ (k : Int) ∧ (k : Int) < (bs.length : Int)) ∨ b.size ≠ 64) := fun h => h.elim (fun x => x hn) (fun x => x h64)
        rw [if_neg hng, if_neg hng, Int.toNat_natCast]
        by_cases ha : aft = 0
        · subst ha
          simp only [if_true]
          exact (write_tear hst k (by omega) b h64 hk64).mono fun e w1 ⟨he, h1, h2⟩ => ⟨he, h.p (by show Stand w0 gS gB ⟨_, 0, clamp kp, true, wri⟩ w1; rw [hkc]; exact h1) h2, h2⟩
        · rw [if_neg ha, if_neg ha]
          exact (write_live hst k (by omega) b h64 ha f3 f4 f5 (by omega)).mono fun e w1 ⟨he, h1, h2⟩ => ⟨he, h.p (by show Stand w0 gS gB ⟨_, _, clamp kp, false, _⟩ w1; rw [hkc]; exact h1) h2, h2⟩
      · rw [if_pos (.inr h64), if_pos (.inr h64)]
        have hg : beg (⟨bs, aft, ((clamp kp).toNat : Int), false, wri⟩ : S) (k : Int) = 0 := by unfold beg; rw [if_neg (by simp), if_pos hn]
        refine (Write_short hst.is (k : Int) b hg h64 hb).mono fun e w1 ⟨he, hw⟩ => ?_
        subst hw
        exact ⟨he, h, fun _ _ _ _ _ _ _ _ x => x⟩
    · rw [if_pos (.inl hn), if_pos (.inl hn)]
      refine (write_far hst n hn b).mono fun e w1 ⟨he, hw⟩ => ?_
      subst hw
      exact ⟨he, h, fun _ _ _ _ _ _ _ _ x => x⟩
def RWPost (w0 : World) (gS gB base rS : Nat) (s1 s' : S) (r : Int) (e : Ending) (w' : World) : Prop := ∃ v, e = .returned (.int .i64 r) ∧ J w0 gS gB base rS v s1 s' w'
theorem RW (h : J w0 gS gB base rS v s1 s w) (hf : Fine L c s) (hc : c ≤ 9000000000000000000) (n : Int) (b : ByteArray) (hb : b.size ≤ 9223372036854775807) :
    Calls Try.prog 14 #[PR rS, .int .i64 n, .string b] w (RWPost w0 gS gB base rS s1 (stepW s n b) (codeW s n b)) := by
  have hR := h.ri
  have f1 := hf.len
  have f2 := hf.few
  unfold codeW stepW
  cases hd : s.dead with
  | true =>
    simp only [if_true]
    refine (RWrite_dead hR hd n b).mono fun e w1 ⟨he, hw⟩ => ?_
    subst hw
    exact ⟨v, he, h⟩
  | false =>
    simp only [Bool.false_eq_true, if_false]
    by_cases hn : 0 ≤ n ∧ n < (s.bs.length : Int)
    · obtain ⟨k, rfl⟩ : ∃ k : Nat, n = (k : Int) := ⟨n.toNat, by omega⟩
      by_cases h64 : b.size = 64
      · have hng : ¬ (¬ (0 ≤ (k : Int) ∧ (k : Int) < (s.bs.length : Int)) ∨ b.size ≠ 64) := fun h => h.elim (fun x => x hn) (fun x => x h64)
        rw [if_neg hng, if_neg hng, Int.toNat_natCast]
        by_cases ha : s.after = 0
        · rw [if_pos ha, if_pos ha]
          exact (RWrite_tear hR hd k (by omega) (by omega) b h64 ha).mono fun e w1 ⟨v', he, h1, h2⟩ => ⟨v', he, h.r h1 h2⟩
        · rw [if_neg ha, if_neg ha]
          exact (RWrite_live hR hd k (by omega) (by omega) b h64 ha hf.a1 hf.a2 hf.w1 (by have := hf.w2; omega)).mono fun e w1 ⟨v', he, h1, h2⟩ => ⟨v', he, h.r (by rw [hd] at h1; exact h1) h2⟩
      · rw [if_pos (.inr h64), if_pos (.inr h64)]
        refine (RWrite_bad hR hd (k : Int) b (by omega) hb (.inr h64)).mono fun e w1 ⟨he, hw⟩ => ?_
        subst hw
        exact ⟨v, he, h⟩
    · rw [if_pos (.inl hn), if_pos (.inl hn)]
      refine (RWrite_bad hR hd n b (by omega) hb (.inl hn)).mono fun e w1 ⟨he, hw⟩ => ?_
      subst hw
      exact ⟨v, he, h⟩
def armS (s : S) (a k : Int) : S := { s with after := max a (-1), keep := k }
def mendS (s : S) : S := { s with after := -1, dead := false }
theorem arm_kept (h : Stand w0 gS gB s w) (a k : Int) : Calls Try.prog 15 #[P gS, .int .i64 a, .int .i64 k] w fun e w' => e = .returned (.tuple #[]) ∧ Stand w0 gS gB { s with after := max a (-1), keep := clamp k } w' ∧ OwnKept gS gB w w' :=
  (Arm_any h.is a k).mono fun e w' ⟨he, hi, hw⟩ => ⟨he, ⟨hi, by rw [hw]; exact ((h.low.setCell (p := ⟨gS, 1, none⟩) h.q1 _).setCell (p := ⟨gS, 2, none⟩) h.q1 _), h.q1, h.q2⟩, fun B e k v n xs q1 q2 ho => by rw [hw]; exact own_set (own_set ho ⟨gS, 1, none⟩ q1 _) ⟨gS, 2, none⟩ q1 _⟩
theorem mend_kept (h : Stand w0 gS gB s w) : Calls Try.prog 17 #[P gS] w fun e w' => e = .returned (.tuple #[]) ∧ Stand w0 gS gB { s with after := -1, dead := false } w' ∧ OwnKept gS gB w w' :=
  (Mend_any h.is).mono fun e w' ⟨he, hi, hw⟩ => ⟨he, ⟨hi, by rw [hw]; exact ((h.low.setCell (p := ⟨gS, 1, none⟩) h.q1 _).setCell (p := ⟨gS, 3, none⟩) h.q1 _), h.q1, h.q2⟩, fun B e k v n xs q1 q2 ho => by rw [hw]; exact own_set (own_set ho ⟨gS, 1, none⟩ q1 _) ⟨gS, 3, none⟩ q1 _⟩
theorem PA (h : J w0 gS gB base rS v s s2 w) (a k : Int) : Calls Try.prog 15 #[P gS, .int .i64 a, .int .i64 k] w fun e w' => e = .returned (.tuple #[]) ∧ J w0 gS gB base rS v (armS s a k) s2 w' ∧ OwnKept gS gB w w' :=
  (arm_kept h.st a k).mono fun e w' ⟨he, h1, h2⟩ => ⟨he, h.p h1 h2, h2⟩
theorem PM (h : J w0 gS gB base rS v s s2 w) : Calls Try.prog 17 #[P gS] w fun e w' => e = .returned (.tuple #[]) ∧ J w0 gS gB base rS v (mendS s) s2 w' ∧ OwnKept gS gB w w' :=
  (mend_kept h.st).mono fun e w' ⟨he, h1, h2⟩ => ⟨he, h.p h1 h2, h2⟩
theorem RA (h : J w0 gS gB base rS v s1 s w) (a k : Int) : Calls Try.prog 16 #[PR rS, .int .i64 a, .int .i64 k] w fun e w' => e = .returned (.tuple #[]) ∧ J w0 gS gB base rS v s1 (armS s a k) w' :=
  (RArm_any h.ri a k).mono fun e w' ⟨he, h1, h2⟩ => ⟨he, h.r h1 h2⟩
theorem RM (h : J w0 gS gB base rS v s1 s w) : Calls Try.prog 18 #[PR rS] w fun e w' => e = .returned (.tuple #[]) ∧ J w0 gS gB base rS v s1 (mendS s) w' :=
  (RMend_any h.ri).mono fun e w' ⟨he, h1, h2⟩ => ⟨he, h.r h1 h2⟩
def rd (s : S) (n : Int) : ByteArray := if beg s n = 0 then ⟨(s.bs.getD n.toNat []).toArray⟩ else ⟨#[]⟩
theorem PD (h : J w0 gS gB base rS v s s2 w) (n : Int) : Calls Try.prog 22 #[P gS, .int .i64 n] w fun e w' => e = .returned (.tuple #[.string (rd s n), .int .i64 (beg s n)]) ∧ w = w' := by
  have hb : beg (pp s) n = beg s n := rfl
  unfold rd
  by_cases hz : beg s n = 0
  · rw [if_pos hz, hz]
    have hz2 := hz
    unfold beg at hz2
    split at hz2
    · cases hz2
    · rename_i hd
      split at hz2
      · rename_i hn
        obtain ⟨k, rfl⟩ : ∃ k : Nat, n = (k : Int) := ⟨n.toNat, by omega⟩
        have hkl : k < s.bs.length := by omega
        rw [Int.toNat_natCast, List.getD_eq_getElem?_getD, List.getElem?_eq_getElem hkl]
        exact Read_ok h.st.is k hkl (show s.dead = false by simpa using hd)
      · cases hz2
  · rw [if_neg hz]
    have := Read_bad h.st.is n (by rw [hb]; exact hz)
    rw [hb] at this
    exact this
theorem RD (h : J w0 gS gB base rS v s1 s w) (hf : Fine L c s) (n : Int) : Calls Try.prog 23 #[PR rS, .int .i64 n] w fun e w' => e = .returned (.tuple #[.string (rd s n), .int .i64 (beg s n)]) ∧ w = w' := by
  refine (RRead_any h.ri n (by have := hf.len; have := hf.few; omega)).mono fun e w1 ⟨he, hw⟩ => ⟨?_, hw⟩
  rw [he]
  unfold rd
  by_cases hz : beg s n = 0
  · rw [if_pos hz, if_pos hz, hz]
  · rw [if_neg hz, if_neg hz]
def bytesV (a : Act) : ByteArray := if a.raw then a.b else ⟨(blk a.b.data.toList).toArray⟩
theorem bytesV_size (a : Act) (h : a.b.size ≤ 9223372036854775807) : (bytesV a).size ≤ 9223372036854775807 := by
  unfold bytesV
  split
  · exact h
  · have h2 : (⟨(blk a.b.data.toList).toArray⟩ : ByteArray).size = 64 := by rw [← U.len_data]; exact blk_len _
    omega
theorem bytes_any (a : Act) (hz : a.b.size ≤ 9223372036854775807) (w : World) : Calls Try.prog 13 #[.agg #[.int .i64 a.kind, .int .i64 a.n, .int .i64 a.keep, .string a.b, .bool a.raw]] w fun e w' => e = .returned (.string (bytesV a)) ∧ Below w.heap.size w w' := by
  have HB := Lib.hid (block_any a.b hz)
  unfold bytesV
  cases hr : a.raw with
  | true =>
    clear HB hr
    simp only [if_true]
    go_enter Try.func13, Try.ntmps13
    go_wp2
    go_ret
    exact ⟨rfl, (Below.refl _ _).alloc (Nat.le_refl _) _⟩
  | false =>
    simp only [Bool.false_eq_true, if_false]
    obtain ⟨Z, hZ⟩ : ∃ Z, Z = (⟨(blk a.b.data.toList).toArray⟩ : ByteArray) := ⟨_, rfl⟩
    rw [← hZ] at HB ⊢
    clear hr hZ
    go_enter Try.func13, Try.ntmps13
    go_wp2_with fail
    refine (HB.out _).mono ?_
    rintro e w1 ⟨rfl, hb1⟩
    have H1 := Lib.hid hb1
    clear hb1
    go_wp2
    go_ret
    exact ⟨rfl, ((Below.refl _ _).alloc (Nat.le_refl _) _).trans (H1.out.mono (by simp))⟩
theorem RIs.form' (h : RIs base rS v s w) : ∃ A cp, v = .slice A s.bs.length cp := by
  rcases h.forms with ⟨e, e2⟩ | ⟨g, cp, e⟩
  · exact ⟨none, 0, by rw [e, e2]⟩
  · exact ⟨_, cp, e⟩
def JS (w0 : World) (gS gB base rS : Nat) (v : Value) (s : S) (w : World) : Prop := J w0 gS gB base rS v s s w
theorem dead_in (x : U.In (JS w0 gS gB base rS v s)) : Calls Try.prog 19 #[P gS] x.w fun e w' => e = .returned (.bool s.dead) ∧ ∃ y : U.In (JS w0 gS gB base rS v s), w' = y.w :=
  (Dead_any x.h.st.is).mono fun e w' ⟨he, hw⟩ => ⟨he, x, hw.symm⟩
theorem writes_in (x : U.In (JS w0 gS gB base rS v s)) : Calls Try.prog 20 #[P gS] x.w fun e w' => e = .returned (.int .i64 s.writes) ∧ ∃ y : U.In (JS w0 gS gB base rS v s), w' = y.w :=
  (Writes_any x.h.st.is).mono fun e w' ⟨he, hw⟩ => ⟨he, x, hw.symm⟩
theorem len_in (x : U.In (JS w0 gS gB base rS v s)) : Calls Try.prog 21 #[P gS] x.w fun e w' => e = .returned (.int .i64 s.bs.length) ∧ ∃ y : U.In (JS w0 gS gB base rS v s), w' = y.w :=
  (Len_any x.h.st.is).mono fun e w' ⟨he, hw⟩ => ⟨he, x, hw.symm⟩
theorem len_inL {n : Nat} (h : s.bs.length = n) (x : U.In (JS w0 gS gB base rS v s)) : Calls Try.prog 21 #[P gS] x.w fun e w' => e = .returned (.int .i64 n) ∧ ∃ y : U.In (JS w0 gS gB base rS v s), w' = y.w := by
  subst h; exact len_in x
theorem JS.drew (h : JS w0 gS gB base rS v s w) : JS w0 gS gB base rS v s w.drew := J.below h (U.below_drewN (Below.refl _ _) 1)
theorem arm_fine (h : Fine L c s) (a k : Int) (ha : a ≤ 9223372036854775807) : Fine L (c + 1) (armS s a k) := ⟨h.len, h.few, by show -1 ≤ max a (-1); omega, by show max a (-1) ≤ _; omega, h.w1, by have := h.w2; show s.writes ≤ c + 1; omega⟩
theorem mend_fine (h : Fine L c s) : Fine L (c + 1) (mendS s) := ⟨h.len, h.few, by show (-1 : Int) ≤ -1; omega, by show (-1 : Int) ≤ 9223372036854775807; omega, h.w1, by have := h.w2; show s.writes ≤ c + 1; omega⟩
theorem same_fine (h : Fine L c s) : Fine L (c + 1) s := ⟨h.len, h.few, h.a1, h.a2, h.w1, by have := h.w2; omega⟩
def acells (a : Act) : List Value := [.int .i64 a.kind, .int .i64 a.n, .int .i64 a.keep, .string a.b, .bool a.raw]
def AO (B gA : Nat) (a : Act) (w : World) : Prop := w.ownsRow B 34 5 (.slice (some ⟨gA, 0, none⟩) 1 1) 1 (acells a)
theorem AO.c1 {B gA : Nat} {a : Act} (h : AO B gA a w) : w.cell? ⟨gA, 1, none⟩ = some (.int .i64 a.n) := World.ownsRow.cellAt h 1 (by omega)
theorem AO.c0 {B gA : Nat} {a : Act} (h : AO B gA a w) : w.cell? ⟨gA, 0, none⟩ = some (.int .i64 a.kind) := World.ownsRow.cellAt h 0 (by omega)
theorem AO.c2 {B gA : Nat} {a : Act} (h : AO B gA a w) : w.cell? ⟨gA, 2, none⟩ = some (.int .i64 a.keep) := World.ownsRow.cellAt h 2 (by omega)
theorem AO.c3 {B gA : Nat} {a : Act} (h : AO B gA a w) : w.cell? ⟨gA, 3, none⟩ = some (.string a.b) := World.ownsRow.cellAt h 3 (by omega)
theorem AO.c4 {B gA : Nat} {a : Act} (h : AO B gA a w) : w.cell? ⟨gA, 4, none⟩ = some (.bool a.raw) := World.ownsRow.cellAt h 4 (by omega)
theorem AO.start {B : Nat} {a : Act} (w : World) (h : B ≤ w.heap.size) : AO B w.heap.size a (w.alloc (.cells #[.int .i64 a.kind, .int .i64 a.n, .int .i64 a.keep, .string a.b, .bool a.raw] 34)) :=
  World.ownsRow_lit w #[.int .i64 a.kind, .int .i64 a.n, .int .i64 a.keep, .string a.b, .bool a.raw] 1 h (by decide) rfl
end Go.Proofs.Ythpkmcohcjpmhaa.Slb
