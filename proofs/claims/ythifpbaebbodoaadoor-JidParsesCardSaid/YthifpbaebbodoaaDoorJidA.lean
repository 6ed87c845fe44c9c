/- jid's functions at this translation: Norm, With, Bare, Put, isPart, isNode, isLabel, Check, Parse: what they return, for every address whose parts have at most 2^36 bytes. -/
import Derived.Test.YthifpbaebbodoaaDoorJidP
import Derived.Deep.RegionWith
set_option linter.unusedVariables false
set_option linter.unusedSimpArgs false
namespace Go.Proofs.YthifpbaebbodoaaDoor.Jid
open Go.RowKit GlyP Gly Strs JidP

/-- A part's bytes as a string. -/
def S (l : List UInt8) : Value := .string ⟨l.toArray⟩
/-- An address as a value. -/
def V (j : J) : Value := .agg #[S j.n, S j.d, S j.r]
def Small (j : J) : Prop := j.n.length ≤ 68719476736 ∧ j.d.length ≤ 68719476736 ∧ j.r.length ≤ 68719476736

set_option maxHeartbeats 1000000 in
theorem Norm_any (a b c : ByteArray) (ha : a.size ≤ 68719476736) (hb : b.size ≤ 68719476736) (w : World) :
    Calls Tryd.prog 18 #[.agg #[.string a, .string b, .string c]] w fun e w' => e = .returned (.agg #[.string ⟨(a.data.toList.map low).toArray⟩, .string ⟨(trimPoint (b.data.toList.map low)).toArray⟩, .string c]) ∧ Below w.heap.size w w' := by
  have hl := fun (s : ByteArray) (h : s.size ≤ 68719476736) => (show (⟨(s.data.toList.map low).toArray⟩ : ByteArray).size ≤ 140737488355328 from by
    rw [← U.len_data]; simp; omega)
  have HL := Lib.hid (hl b hb)
  clear hl
  go_enter Tryd.func18, Tryd.ntmps18
  go_wp2_with fail
  refine (Fold_any a (by omega) _).mono ?_
  rintro e w1 ⟨rfl, hb1⟩
  have a0 := ((U.At.new w 24 #[.string a, .string b, .string c]).alloc (.cells #[.string ⟨#[]⟩, .string ⟨#[]⟩, .string ⟨#[]⟩] 24)).below hb1
  have r0 := (U.At.new (w.alloc (.cells #[.string a, .string b, .string c] 24)) 24 #[.string ⟨#[]⟩, .string ⟨#[]⟩, .string ⟨#[]⟩]).below hb1
  simp only [World.size_alloc] at r0
  have b0 : Below w.heap.size w w1 := (((Below.refl _ w).alloc (Nat.le_refl _) _).alloc (by simp) _).trans (hb1.mono (by simp; omega))
  obtain ⟨A, hA⟩ : ∃ A : ByteArray, A = ⟨(a.data.toList.map low).toArray⟩ := ⟨_, rfl⟩
  rw [← hA]
  have HA := Lib.hid hA; clear hA hb1
  have a1 := a0.set 0 (.string A)
  have r1 := r0.other ⟨w.heap.size, 0, none⟩ (.string A) (by simp)
  have b1 := b0.setCell (p := ⟨w.heap.size, 0, none⟩) (Nat.le_refl _) (.string A)
  have c00 := a0.cell 0 _ rfl
  have c01 := a0.cell 1 _ rfl
  have f00 := a0.free 0
  go_wp2_with fail
  refine (Fold_any b (by omega) _).mono ?_
  rintro e w2 ⟨rfl, hb2⟩
  go_wp2_with fail
  refine (TrimSuffix_one 46 _ HL.out _).mono ?_
  rintro e w3 ⟨rfl, rfl⟩
  have a2 := a1.below hb2
  have r2 := r1.below hb2
  have b2 := b1.trans (hb2.mono b1.size)
  obtain ⟨B, hB⟩ : ∃ B : ByteArray, B = ⟨(trimPoint (b.data.toList.map low)).toArray⟩ := ⟨_, rfl⟩
  rw [show (if (⟨(b.data.toList.map low).toArray⟩ : ByteArray).data.toList.getLast? = some 46 then (⟨(b.data.toList.map low).toArray⟩ : ByteArray).data.toList.dropLast else (⟨(b.data.toList.map low).toArray⟩ : ByteArray).data.toList) = trimPoint (b.data.toList.map low) from rfl, ← hB]
  have HB := Lib.hid hB; clear hB hb2
  have c10 := U.At.cell a2 0 (.string A) rfl
  have c11 := U.At.cell a2 1 (.string b) rfl
  have c12 := U.At.cell a2 2 (.string c) rfl
  have f11 := U.At.free a2 1
  have d0 := r2.cell 0 _ rfl
  have d1 := r2.cell 1 _ rfl
  have d2 := r2.cell 2 _ rfl
  have g0 := r2.free 0
  have g1 := r2.free 1
  have g2 := r2.free 2
  clear c00 c01 f00
  go_wp2
  refine bodyPost_ret (v := .agg #[.string A, .string B, .string c]) (by simp [results, Tryd.results18, go_sem, c10, c11, c12, d0, d1, d2]) rfl ⟨by rw [HA.out, HB.out], ?_⟩
  repeat (first | exact b2 | (refine Below.setCell ?_ (by simp) _))


theorem With_any (a b c d : ByteArray) (w : World) :
    Calls Tryd.prog 22 #[.agg #[.string a, .string b, .string c], .string d] w fun e w' => e = .returned (.agg #[.string a, .string b, .string d]) ∧ Below w.heap.size w w' := by
  go_enter Tryd.func22, Tryd.ntmps22
  go_wp2
  refine bodyPost_ret (v := .agg #[.string a, .string b, .string d]) (by simp [results, Tryd.results22, go_sem]) rfl ⟨rfl, ?_⟩
  repeat (first | exact Below.refl _ _ | (refine Below.alloc ?_ (by simp) _) | (refine Below.setCell ?_ (by simp) _))

theorem Bare_any (a b c : ByteArray) (w : World) :
    Calls Tryd.prog 20 #[.agg #[.string a, .string b, .string c]] w fun e w' => e = .returned (.agg #[.string a, .string b, .string ⟨#[]⟩]) ∧ Below w.heap.size w w' := by
  go_enter Tryd.func20, Tryd.ntmps20
  go_wp2_with fail
  refine (With_any a b c _ _).mono ?_
  rintro e w1 ⟨rfl, hb1⟩
  have r0 := (U.At.new (w.alloc (.cells #[.string a, .string b, .string c] 24)) 24 #[.string ⟨#[]⟩, .string ⟨#[]⟩, .string ⟨#[]⟩]).below hb1
  simp only [World.size_alloc] at r0
  have b0 : Below w.heap.size w w1 := (((Below.refl _ w).alloc (Nat.le_refl _) _).alloc (by simp) _).trans (hb1.mono (by simp; omega))
  have d0 := r0.cell 0 _ rfl
  have d1 := r0.cell 1 _ rfl
  have d2 := r0.cell 2 _ rfl
  have g0 := r0.free 0
  have g1 := r0.free 1
  have g2 := r0.free 2
  clear hb1
  go_wp2
  refine bodyPost_ret (v := .agg #[.string a, .string b, .string ⟨#[]⟩]) (by simp [results, Tryd.results20, go_sem, d0, d1, d2]) rfl ⟨rfl, ?_⟩
  repeat (first | exact b0 | (refine Below.setCell ?_ (by simp) _))

theorem ba_nil (s : ByteArray) (h : s.size = 0) : s = ⟨#[]⟩ := by
  rw [U.mk_data s [] (by rw [← Lib.toList_data]; exact U.toList_nil s h)]
theorem app_nil (s : ByteArray) : s ++ ⟨#[]⟩ = s := by
  show s ++ ByteArray.empty = s
  simp
/-- The text as the code puts it together. -/
def putB (a b c : ByteArray) : ByteArray := (if a.size = 0 then b else (a ++ ⟨#[64]⟩) ++ b) ++ (if c.size = 0 then ⟨#[]⟩ else ⟨#[47]⟩ ++ c)

theorem Put_any (a b c : ByteArray) (ha : a.size ≤ 68719476736) (hb : b.size ≤ 68719476736) (hc : c.size ≤ 68719476736) (w : World) :
    Calls Tryd.prog 16 #[.agg #[.string a, .string b, .string c]] w fun e w' => e = .returned (.string (putB a b c)) ∧ Below w.heap.size w w' := by
  have hone : (⟨#[64]⟩ : ByteArray).size = 1 := rfl
  have hone2 : (⟨#[47]⟩ : ByteArray).size = 1 := rfl
  rcases Nat.eq_zero_or_pos a.size with h0 | h0
  · have e1 := U.toList_nil a h0
    rcases Nat.eq_zero_or_pos c.size with h1 | h1
    · have e2 := U.toList_nil c h1
      have HV := Lib.hid (show putB a b c = b from by unfold putB; rw [if_pos h0, if_pos h1, app_nil])
      clear h0 h1
      go_enter Tryd.func16, Tryd.ntmps16
      go_wp2
      go_ret
      exact ⟨by rw [HV.out]; rfl, (Below.refl _ w).alloc (Nat.le_refl _) _⟩
    · have e2 := U.isEmpty_false c h1
      have HV := Lib.hid (show putB a b c = b ++ (⟨#[47]⟩ ++ c) from by unfold putB; rw [if_pos h0, if_neg (by omega)])
      clear h0
      go_enter Tryd.func16, Tryd.ntmps16
      go_wp2
      go_ret
      exact ⟨by rw [HV.out]; rfl, (Below.refl _ w).alloc (Nat.le_refl _) _⟩
  · have e1 := U.isEmpty_false a h0
    rcases Nat.eq_zero_or_pos c.size with h1 | h1
    · have e2 := U.toList_nil c h1
      have HV := Lib.hid (show putB a b c = (a ++ ⟨#[64]⟩) ++ b from by unfold putB; rw [if_neg (by omega), if_pos h1, app_nil])
      clear h1
      go_enter Tryd.func16, Tryd.ntmps16
      go_wp2
      go_ret
      exact ⟨by rw [HV.out]; rfl, (Below.refl _ w).alloc (Nat.le_refl _) _⟩
    · have e2 := U.isEmpty_false c h1
      have HV := Lib.hid (show putB a b c = ((a ++ ⟨#[64]⟩) ++ b) ++ (⟨#[47]⟩ ++ c) from by unfold putB; rw [if_neg (by omega), if_neg (by omega)])
      go_enter Tryd.func16, Tryd.ntmps16
      go_wp2
      go_ret
      exact ⟨by rw [HV.out]; rfl, (Below.refl _ w).alloc (Nat.le_refl _) _⟩

theorem isPart_step (s : ByteArray) (k : Nat) (h : k < s.size) (p : UInt8 → Bool) : (s.data.toList.drop k).all p = (p s[k] && (s.data.toList.drop (k + 1)).all p) := by
  rw [U.u8_at s k h]; rfl
theorem all_end (s : ByteArray) (k : Nat) (h : k = s.size) (p : UInt8 → Bool) : (s.data.toList.drop k).all p = true := by
  rw [h, List.drop_eq_nil_of_le (by rw [U.len_data]; omega)]; rfl

set_option maxHeartbeats 1000000 in
theorem isPart_any (s : ByteArray) (hs : s.size ≤ 68719476736) (w : World) :
    Calls Tryd.prog 26 #[.string s] w fun e w' => e = .returned (.bool (isPart s.data.toList)) ∧ Below w.heap.size w w' := by
  by_cases hlen : (1023 : Int) < s.size
  · have HV := Lib.hid (show isPart s.data.toList = false from by unfold isPart; rw [U.len_data, decide_eq_false (by omega)]; rfl)
    go_enter Tryd.func26, Tryd.ntmps26
    go_wp2
    go_ret
    exact ⟨by rw [HV.out]; rfl, Below.refl _ _⟩
  · have hd : decide (s.data.toList.length ≤ 1023) = true := decide_eq_true (by rw [U.len_data]; omega)
    cases ht : isText s.data.toList with
    | false =>
      have HV := Lib.hid (show isPart s.data.toList = false from by unfold isPart; rw [hd, ht]; rfl)
      have hC := fun w => Check_any s (by omega) w
      rw [ht, if_neg (by decide)] at hC
      have HC := Lib.hid hC
      clear ht hd hC
      go_enter Tryd.func26, Tryd.ntmps26
      go_wp2_with fail
      refine (HC.out _).mono ?_
      rintro e w1 ⟨rfl, hb⟩
      go_wp2
      go_ret
      exact ⟨by rw [HV.out]; rfl, hb⟩
    | true =>
      have HV := Lib.hid (show isPart s.data.toList = s.data.toList.all (fun c => !(decide (c < 32) || c == 127)) from by unfold isPart; rw [hd, ht]; rfl)
      have hC := fun w => Check_any s (by omega) w
      rw [ht, if_pos rfl] at hC
      have HC := Lib.hid hC
      clear ht hd hC
      go_enter Tryd.func26, Tryd.ntmps26
      go_wp2_with fail
      refine (HC.out _).mono ?_
      rintro e w1 ⟨rfl, hb⟩
      go_wp2
      go_loop [14] (fun i => ∃ k : Nat, k ≤ s.size ∧ i = .int .i64 k ∧ Hid (isPart s.data.toList = (s.data.toList.drop k).all (fun c => !(decide (c < 32) || c == 127)))) (fun i => s.size - (intOf i).toNat)
      case atStart => exact ⟨0, by omega, rfl, HV⟩
      case round =>
        obtain ⟨k, hk, rfl, HA⟩ := hrel
        by_cases hlt : k < s.size
        · have HS := Lib.hid (isPart_step s k hlt (fun c => !(decide (c < 32) || c == 127)))
          have e32 : decide (s[k] < 32) = decide ((s[k].toNat : Int) < 32) := by
            rw [decide_eq_decide, UInt8.lt_iff_toNat_lt]; simp; omega
          have e127 : (s[k] == 127) = ((s[k].toNat : Int) == 127) := (U.beq_u8 s[k] 127).symm
          have E32 := Lib.hid e32
          have E127 := Lib.hid e127
          clear e32 e127
          by_cases h1 : (s[k].toNat : Int) < 32
          · go_wp2
            go_ret
            exact ⟨by rw [HA.out, HS.out, E32.out, decide_eq_true h1]; rfl, hb⟩
          · cases h2 : ((s[k].toNat : Int) == 127) with
            | true =>
              go_wp2
              go_ret
              exact ⟨by rw [HA.out, HS.out, E32.out, E127.out, h2, Bool.or_true]; rfl, hb⟩
            | false =>
              have H2 := Lib.hid h2
              have H1 := Lib.hid (decide_eq_false h1)
              go_wp2
              go_round
              case rel => exact ⟨k + 1, by omega, by go_num, Lib.hid (by rw [HA.out, HS.out, E32.out, E127.out, H2.out, H1.out]; rfl)⟩
              case measure => simp [intOf]; omega
        · have hkk : k = s.size := by omega
          have HE := Lib.hid (all_end s k hkk (fun c => !(decide (c < 32) || c == 127)))
          clear hkk
          go_wp2
          go_ret
          exact ⟨by rw [HA.out, HE.out]; rfl, hb⟩


def nodeS : ByteArray := ⟨#[32, 34, 38, 39, 47, 58, 60, 62, 64]⟩
def Idx (w : World) (b : Bool) (e : Ending) (w' : World) : Prop := (∃ k : Int, e = .returned (.int .i64 k) ∧ (decide (0 ≤ k)) = b) ∧ w = w'
theorem index_node (c : UInt8) (w : World) : Calls Tryd.prog 36 #[.string ⟨#[32, 34, 38, 39, 47, 58, 60, 62, 64]⟩, .int .u8 (c.toNat : Int)] w (Idx w (nodeBad.contains c)) :=
  IndexByte_has nodeS c _ rfl w

set_option maxHeartbeats 1000000 in
theorem isNode_any (s : ByteArray) (hs : s.size ≤ 68719476736) (w : World) :
    Calls Tryd.prog 27 #[.string s] w fun e w' => e = .returned (.bool (isNode s.data.toList)) ∧ w = w' := by
  go_enter Tryd.func27, Tryd.ntmps27
  go_wp2_with fail
  go_loop [6] (fun i => ∃ k : Nat, k ≤ s.size ∧ i = .int .i64 k ∧ Hid (isNode s.data.toList = (s.data.toList.drop k).all (fun c => !(nodeBad.contains c)))) (fun i => s.size - (intOf i).toNat)
  case atStart => exact ⟨0, by omega, rfl, Lib.hid rfl⟩
  case round =>
    obtain ⟨k, hk, rfl, HA⟩ := hrel
    by_cases hlt : k < s.size
    · have HS := Lib.hid (isPart_step s k hlt (fun c => !(nodeBad.contains c)))
      go_wp2_with fail
      refine (index_node _ _).mono ?_
      rintro e w1 ⟨⟨z, rfl, hz⟩, rfl⟩
      have HZ := Lib.hid hz
      clear hz
      by_cases h0 : 0 ≤ z
      · have hb : nodeBad.contains s[k] = true := by rw [← HZ.out]; exact decide_eq_true h0
        have HB := Lib.hid hb; clear hb
        go_wp2
        go_ret
        exact ⟨by rw [HA.out, HS.out, HB.out]; rfl, rfl⟩
      · have hb : nodeBad.contains s[k] = false := by rw [← HZ.out]; exact decide_eq_false h0
        have HB := Lib.hid hb; clear hb
        go_wp2
        go_round
        case rel => exact ⟨k + 1, by omega, by go_num, Lib.hid (by rw [HA.out, HS.out, HB.out]; rfl)⟩
        case measure => simp [intOf]; omega
    · have hkk : k = s.size := by omega
      have HE := Lib.hid (all_end s k hkk (fun c => !(nodeBad.contains c)))
      clear hkk
      go_wp2
      go_ret
      exact ⟨by rw [HA.out, HE.out]; rfl, rfl⟩

theorem label_int (c : UInt8) : labelB c = ((decide (97 ≤ (c.toNat : Int)) && decide ((c.toNat : Int) ≤ 122)) || (decide (48 ≤ (c.toNat : Int)) && decide ((c.toNat : Int) ≤ 57)) || ((c.toNat : Int) == 45)) := by
  unfold labelB
  have e1 : (97 ≤ c) ↔ ((97 : Int) ≤ (c.toNat : Int)) := by rw [UInt8.le_iff_toNat_le]; simp; omega
  have e2 : (c ≤ 122) ↔ ((c.toNat : Int) ≤ 122) := by rw [UInt8.le_iff_toNat_le]; simp; omega
  have e3 : (48 ≤ c) ↔ ((48 : Int) ≤ (c.toNat : Int)) := by rw [UInt8.le_iff_toNat_le]; simp; omega
  have e4 : (c ≤ 57) ↔ ((c.toNat : Int) ≤ 57) := by rw [UInt8.le_iff_toNat_le]; simp; omega
  rw [decide_eq_decide.2 e1, decide_eq_decide.2 e2, decide_eq_decide.2 e3, decide_eq_decide.2 e4, ← U.beq_u8]
  rfl

set_option maxHeartbeats 2000000 in
theorem isLabel_any (s : ByteArray) (hs : s.size ≤ 68719476736) (w : World) :
    Calls Tryd.prog 29 #[.string s] w fun e w' => e = .returned (.bool (isLabel s.data.toList)) ∧ w = w' := by
  go_enter Tryd.func29, Tryd.ntmps29
  go_wp2_with fail
  go_loop [7] (fun i => ∃ k : Nat, k ≤ s.size ∧ i = .int .i64 k ∧ Hid (s.data.toList.all labelB = (s.data.toList.drop k).all labelB)) (fun i => s.size - (intOf i).toNat)
  case atStart => exact ⟨0, by omega, rfl, Lib.hid rfl⟩
  case round =>
    obtain ⟨k, hk, rfl, HA⟩ := hrel
    by_cases hlt : k < s.size
    · have HS := Lib.hid (isPart_step s k hlt labelB)
      have HL := Lib.hid (label_int s[k])
      obtain ⟨x, hx⟩ : ∃ x : Int, x = (s[k].toNat : Int) := ⟨_, rfl⟩
      by_cases h1 : 97 ≤ x ∧ x ≤ 122
      · have hb : labelB s[k] = true := by rw [HL.out, ← hx, decide_eq_true h1.1, decide_eq_true h1.2]; rfl
        have HB := Lib.hid hb
        rw [hx] at h1
        obtain ⟨h1, h2⟩ := h1
        clear hb hx
        go_wp2
        go_round
        case rel => exact ⟨k + 1, by omega, by go_num, Lib.hid (by rw [HA.out, HS.out, HB.out]; rfl)⟩
        case measure => simp [intOf]; omega
      · by_cases h2 : 48 ≤ x ∧ x ≤ 57
        · have hb : labelB s[k] = true := by rw [HL.out, ← hx, decide_eq_true h2.1, decide_eq_true h2.2]; simp
          have HB := Lib.hid hb
          have h97 : (s[k].toNat : Int) < 97 := by omega
          rw [hx] at h2
          obtain ⟨h3, h4⟩ := h2
          clear hb hx h1
          go_wp2
          go_round
          case rel => exact ⟨k + 1, by omega, by go_num, Lib.hid (by rw [HA.out, HS.out, HB.out]; rfl)⟩
          case measure => simp [intOf]; omega
        · have hfal : (decide (97 ≤ x) && decide (x ≤ 122)) = false ∧ (decide (48 ≤ x) && decide (x ≤ 57)) = false := by
            constructor
            · rw [Bool.eq_false_iff]; intro h; rw [Bool.and_eq_true, decide_eq_true_eq, decide_eq_true_eq] at h; exact h1 h
            · rw [Bool.eq_false_iff]; intro h; rw [Bool.and_eq_true, decide_eq_true_eq, decide_eq_true_eq] at h; exact h2 h
          cases h45 : (x == 45) with
          | true =>
            have hb : labelB s[k] = true := by rw [HL.out, ← hx, hfal.1, hfal.2, h45]; rfl
            have HB := Lib.hid hb
            have hx45 : x = 45 := by simpa using h45
            have hk45 : (s[k].toNat : Int) = 45 := by omega
            clear hb hx h1 h2 h45 hfal hx45
            go_wp2
            go_round
            case rel => exact ⟨k + 1, by omega, by go_num, Lib.hid (by rw [HA.out, HS.out, HB.out]; rfl)⟩
            case measure => simp [intOf]; omega
          | false =>
            have hb : labelB s[k] = false := by rw [HL.out, ← hx, hfal.1, hfal.2, h45]; rfl
            have HB := Lib.hid hb
            rw [hx] at h45
            have hne : ((s[k].toNat : Int) != 45) = true := by rw [bne, h45]; rfl
            have HV := Lib.hid (show isLabel s.data.toList = false from by rw [isLabel, HA.out, HS.out, hb]; rfl)
            rw [hx] at h1 h2
            clear hb hx hfal
            by_cases g1 : (s[k].toNat : Int) < 97
            · by_cases g2 : (s[k].toNat : Int) < 48
              · clear h1 h2
                go_wp2
                go_ret
                exact ⟨by rw [HV.out]; rfl, rfl⟩
              · have g3 : (57 : Int) < (s[k].toNat : Int) := by omega
                clear h1 h2
                go_wp2
                go_ret
                exact ⟨by rw [HV.out]; rfl, rfl⟩
            · have g3 : (122 : Int) < (s[k].toNat : Int) := by omega
              have g4 : ¬ (s[k].toNat : Int) < 48 := by omega
              have g5 : (57 : Int) < (s[k].toNat : Int) := by omega
              clear h1 h2
              go_wp2
              go_ret
              exact ⟨by rw [HV.out]; rfl, rfl⟩
    · have hkk : k = s.size := by omega
      have HE := Lib.hid (all_end s k hkk labelB)
      clear hkk
      rcases Nat.eq_zero_or_pos s.size with h0 | h0
      · have e1 := U.toList_nil s h0
        have HV := Lib.hid (show isLabel s.data.toList = false from by rw [isLabel, ← Lib.toList_data, e1]; rfl)
        clear h0
        go_wp2
        go_ret
        exact ⟨by rw [HV.out]; rfl, rfl⟩
      · have e1 := U.isEmpty_false s h0
        have HV := Lib.hid (show isLabel s.data.toList = true from by rw [isLabel, HA.out, HE.out, ← Lib.toList_data, e1]; rfl)
        go_wp2
        go_ret
        exact ⟨by rw [HV.out]; rfl, rfl⟩

end Go.Proofs.YthifpbaebbodoaaDoor.Jid
