/- wharflaw03.JidCase: its walk. -/
import Derived.Test.YthifpbaebbodoaaDoorJidK
import Derived.Test.YthifpbaebbodoaaDoorJidS
import Derived.Test.YthifpbaebbodoaaDoorRefF
set_option linter.unusedVariables false
set_option linter.unusedSimpArgs false
namespace Go.Proofs.YthifpbaebbodoaaDoor.Jid
open Go.RowKit GlyP Gly Strs JidP

abbrev FoldSays (s t : ByteArray) : Prop := Hid (∀ w, Calls Tryd.prog 23 #[.string s] w fun e w' => e = .returned (.string t) ∧ Below w.heap.size w w')
def flip (c : UInt8) : UInt8 := c ^^^ 32
theorem flip_bits (c : UInt8) : Go.bits .xor .u8 (c.toNat : Int) 32 = ((flip c).toNat : Int) := by
  have h : ∀ n : Fin 256, Go.bits .xor .u8 (n.val : Int) 32 = ((flip (UInt8.ofNat n.val)).toNat : Int) := by decide +kernel
  have := h ⟨c.toNat, c.toNat_lt⟩
  simpa using this
theorem BytesAt_alloc {g : Nat} {l : List UInt8} {w : World} (h : U.BytesAt g l w) (o : Obj) : U.BytesAt g l (w.alloc o) := h.below ((Below.refl _ w).alloc (Nat.le_refl _) _)
theorem bar_step (s : ByteArray) (k : Nat) (h : k < s.size) : (s.data.toList.take (k + 1)).contains 47 = ((s.data.toList.take k).contains 47 || ((s[k].toNat : Int) == 47)) := by
  rw [List.take_succ_eq_append_getElem (by rw [U.len_data]; exact h), contains_app]
  congr 1
  rw [show (47 : Int) = ((47 : UInt8).toNat : Int) from rfl, U.beq_u8]
  show ([s[k]] : List UInt8).contains 47 = (s[k] == 47)
  rw [List.contains_cons, List.contains_nil, Bool.or_false, Bool.beq_comm]

theorem JidCase_a (s : ByteArray) (a : Int) (h : (4000 : Int) < (s.size : Int)) (w : World) :
    Calls Tryd.prog 6 #[.string s, .int .i64 a] w fun e w' => e = .returned (.bool true) ∧ Below w.heap.size w w' := by
  go_enter Tryd.func6, Tryd.ntmps6
  go_wp2_with fail
  refine (live_any _).mono ?_
  rintro e w1 ⟨rfl, hb⟩
  go_wp2
  go_ret
  exact ⟨rfl, hb⟩

theorem JidCase_b (s : ByteArray) (a : Int) (h0 : ¬ (4000 : Int) < (s.size : Int)) (h : a < 0) (w : World) :
    Calls Tryd.prog 6 #[.string s, .int .i64 a] w fun e w' => e = .returned (.bool true) ∧ Below w.heap.size w w' := by
  go_enter Tryd.func6, Tryd.ntmps6
  go_wp2_with fail
  refine (live_any _).mono ?_
  rintro e w1 ⟨rfl, hb⟩
  go_wp2
  go_ret
  exact ⟨rfl, hb⟩

theorem JidCase_c (s : ByteArray) (a : Int) (h0 : ¬ (4000 : Int) < (s.size : Int)) (h1 : ¬ a < 0) (h : (s.size : Int) ≤ a) (w : World) :
    Calls Tryd.prog 6 #[.string s, .int .i64 a] w fun e w' => e = .returned (.bool true) ∧ Below w.heap.size w w' := by
  go_enter Tryd.func6, Tryd.ntmps6
  go_wp2_with fail
  refine (live_any _).mono ?_
  rintro e w1 ⟨rfl, hb⟩
  go_wp2
  go_ret
  exact ⟨rfl, hb⟩

theorem JidCase_d (s F : ByteArray) (n : Nat) (h0 : ¬ (4000 : Int) < (s.size : Int)) (hn : n < s.size) (hF : n < F.size) (HF : FoldSays s F) (h : (F[n].toNat : Int) < 97) (w : World) :
    Calls Tryd.prog 6 #[.string s, .int .i64 n] w fun e w' => e = .returned (.bool true) ∧ Below w.heap.size w w' := by
  go_enter Tryd.func6, Tryd.ntmps6
  go_wp2_with fail
  refine (HF.out _).mono ?_
  rintro e w1 ⟨rfl, hb1⟩
  go_wp2_with fail
  refine (live_any _).mono ?_
  rintro e w2 ⟨rfl, hb⟩
  go_wp2
  go_ret
  exact ⟨rfl, U.below_then hb1 hb⟩

theorem JidCase_e (s F : ByteArray) (n : Nat) (h0 : ¬ (4000 : Int) < (s.size : Int)) (hn : n < s.size) (hF : n < F.size) (HF : FoldSays s F) (h1 : ¬ (F[n].toNat : Int) < 97) (h : (122 : Int) < (F[n].toNat : Int)) (w : World) :
    Calls Tryd.prog 6 #[.string s, .int .i64 n] w fun e w' => e = .returned (.bool true) ∧ Below w.heap.size w w' := by
  go_enter Tryd.func6, Tryd.ntmps6
  go_wp2_with fail
  refine (HF.out _).mono ?_
  rintro e w1 ⟨rfl, hb1⟩
  go_wp2_with fail
  refine (live_any _).mono ?_
  rintro e w2 ⟨rfl, hb⟩
  go_wp2
  go_ret
  exact ⟨rfl, U.below_then hb1 hb⟩

set_option maxHeartbeats 2000000 in
theorem JidCase_f (s F : ByteArray) (n : Nat) (h0 : ¬ (4000 : Int) < (s.size : Int)) (hn : n < s.size) (hF : n < F.size) (HF : FoldSays s F) (h1 : ¬ (F[n].toNat : Int) < 97) (h2 : ¬ (122 : Int) < (F[n].toNat : Int))
    (x1 x2 x3 y1 y2 y3 : ByteArray) (HP : ParseSays s x1 x2 x3 30) (HQ : ParseSays ⟨(s.data.toList.set n (flip s[n])).toArray⟩ y1 y2 y3 30) (w : World) :
    Calls Tryd.prog 6 #[.string s, .int .i64 n] w fun e w' => e = .returned (.bool true) ∧ Below w.heap.size w w' := by
  have hcv := fun (w : World) => Lib.run_convert_string_bytes (P := Tryd.prog) w 9 39 5 s Tryd.underlying9 Tryd.underlying39 Tryd.underlying5
  have HX := Lib.hid (flip_bits s[n])
  go_enter Tryd.func6, Tryd.ntmps6
  go_wp2_with fail
  refine (HF.out _).mono ?_
  rintro e w1 ⟨rfl, hb1⟩
  have hat := U.BytesAt.new w1 s
  have hlen := U.len_data s
  obtain ⟨hc, hf⟩ := hat n (by rw [hlen]; exact hn)
  have hg : s.data.toList[n]'(by rw [hlen]; exact hn) = s[n] := rfl
  rw [hg] at hc
  have HAT := Lib.hid hat
  clear hat hg
  go_wp2
  go_loop [7, 8] (fun t i => ∃ k : Nat, ∃ bb : Bool, k ≤ n ∧ i = .int .i64 k ∧ t = .bool bb ∧ Hid (bb = (s.data.toList.take k).contains 47)) (fun t i => n - (intOf i).toNat)
  case atStart => exact ⟨0, false, by omega, rfl, rfl, Lib.hid rfl⟩
  case round =>
    obtain ⟨k, bb, hk, rfl, rfl, HA⟩ := hrel
    by_cases hlt : k < n
    · have hks : k < s.size := by omega
      have HS := Lib.hid (bar_step s k hks)
      cases bb with
      | true =>
        go_wp2
        go_round
        case rel => exact ⟨k + 1, true, by omega, by go_num, rfl, Lib.hid (by rw [HS.out, ← HA.out]; rfl)⟩
        case measure => simp [intOf]; omega
      | false =>
        go_wp2
        go_round
        case rel => exact ⟨k + 1, ((s[k].toNat : Int) == 47), by omega, by go_num, by first | rfl | simp, Lib.hid (by rw [HS.out, ← HA.out]; rfl)⟩
        case measure => simp [intOf]; omega
    · obtain rfl : k = n := by omega

      clear hcv
      have hB := HAT.out.set k (flip s[k]) (.int .u8 (Go.bits .xor .u8 (s[k].toNat : Int) 32)) (by rw [HX.out])
      have HB2 := Lib.hid hB
      have b1 := hb1.trans (((U.below_bytesWorld w1 5 s).setCell (p := ⟨w1.heap.size, k, none⟩) (Nat.le_refl _) (.int .u8 (Go.bits .xor .u8 (s[k].toNat : Int) 32))).mono hb1.size)
      have B1 := Lib.hid b1
      clear hB b1 hc hf hb1
      go_wp2_with fail
      refine (HP.out _).mono ?_
      rintro e w2 ⟨rfl, hb2⟩
      have HB3 := Lib.hid (BytesAt_alloc (HB2.out.below hb2) (.cells #[.string x1, .string x2, .string x3] 24))
      have B2 := Lib.hid ((B1.out.trans (hb2.mono B1.out.size)))
      clear hb2
      have hcv := HB3.out.text (P := Tryd.prog) 39 9 5 (grownCap w1 s.size 0 5) Tryd.underlying39 Tryd.underlying5 Tryd.underlying9
      rw [List.length_set, hlen] at hcv
      go_wp2_with fail
      refine (HQ.out _).mono ?_
      rintro e w3 ⟨rfl, hb3⟩
      have x0 := ((U.At.new w2 24 #[.string x1, .string x2, .string x3]).below hb3)
      have hne := x0.lt
      have c0 := x0.cell 0 _ rfl
      have c1 := x0.cell 1 _ rfl
      have c2 := x0.cell 2 _ rfl
      have B3 := Lib.hid ((B2.out.alloc B2.out.size (.cells #[.string x1, .string x2, .string x3] 24)).trans (hb3.mono (by have := B2.out.size; simp; omega)))
      clear hb3 x0 hcv
      go_wp2_with fail
      refine (num_30 _).mono ?_
      rintro e w4 ⟨rfl, rfl⟩
      go_wp2_with fail
      refine (num_30 _).mono ?_
      rintro e w4 ⟨rfl, rfl⟩
      go_wp2_with fail
      refine (num_30 _).mono ?_
      rintro e w4 ⟨rfl, rfl⟩
      go_wp2_with fail
      refine (live_any _).mono ?_
      rintro e w4 ⟨rfl, hb4⟩
      have B4 := (B3.out.alloc B3.out.size (.cells #[.string y1, .string y2, .string y3] 24)).trans (hb4.mono (by have := B3.out.size; simp; omega))
      clear hb4
      go_wp2
      go_ret
      exact ⟨rfl, B4⟩

set_option maxHeartbeats 2000000 in
theorem JidCase_g (s F : ByteArray) (n : Nat) (h0 : ¬ (4000 : Int) < (s.size : Int)) (hn : n < s.size) (hF : n < F.size) (HF : FoldSays s F) (h1 : ¬ (F[n].toNat : Int) < 97) (h2 : ¬ (122 : Int) < (F[n].toNat : Int))
    (x1 x2 x3 y1 y2 y3 : ByteArray) (HP : ParseSays s x1 x2 x3 0) (HQ : ParseSays ⟨(s.data.toList.set n (flip s[n])).toArray⟩ y1 y2 y3 0) (HB : Hid ((s.data.toList.take n).contains 47 = false)) (e1 : x1.toList = y1.toList) (e2 : x2.toList = y2.toList) (e3 : x3.toList = y3.toList) (w : World) :
    Calls Tryd.prog 6 #[.string s, .int .i64 n] w fun e w' => e = .returned (.bool true) ∧ Below w.heap.size w w' := by
  have hcv := fun (w : World) => Lib.run_convert_string_bytes (P := Tryd.prog) w 9 39 5 s Tryd.underlying9 Tryd.underlying39 Tryd.underlying5
  have HX := Lib.hid (flip_bits s[n])
  go_enter Tryd.func6, Tryd.ntmps6
  go_wp2_with fail
  refine (HF.out _).mono ?_
  rintro e w1 ⟨rfl, hb1⟩
  have hat := U.BytesAt.new w1 s
  have hlen := U.len_data s
  obtain ⟨hc, hf⟩ := hat n (by rw [hlen]; exact hn)
  have hg : s.data.toList[n]'(by rw [hlen]; exact hn) = s[n] := rfl
  rw [hg] at hc
  have HAT := Lib.hid hat
  clear hat hg
  go_wp2
  go_loop [7, 8] (fun t i => ∃ k : Nat, ∃ bb : Bool, k ≤ n ∧ i = .int .i64 k ∧ t = .bool bb ∧ Hid (bb = (s.data.toList.take k).contains 47)) (fun t i => n - (intOf i).toNat)
  case atStart => exact ⟨0, false, by omega, rfl, rfl, Lib.hid rfl⟩
  case round =>
    obtain ⟨k, bb, hk, rfl, rfl, HA⟩ := hrel
    by_cases hlt : k < n
    · have hks : k < s.size := by omega
      have HS := Lib.hid (bar_step s k hks)
      cases bb with
      | true =>
        go_wp2
        go_round
        case rel => exact ⟨k + 1, true, by omega, by go_num, rfl, Lib.hid (by rw [HS.out, ← HA.out]; rfl)⟩
        case measure => simp [intOf]; omega
      | false =>
        go_wp2
        go_round
        case rel => exact ⟨k + 1, ((s[k].toNat : Int) == 47), by omega, by go_num, by first | rfl | simp, Lib.hid (by rw [HS.out, ← HA.out]; rfl)⟩
        case measure => simp [intOf]; omega
    · obtain rfl : k = n := by omega

      obtain rfl : bb = false := HA.out.trans HB.out

      clear hcv
      have hB := HAT.out.set k (flip s[k]) (.int .u8 (Go.bits .xor .u8 (s[k].toNat : Int) 32)) (by rw [HX.out])
      have HB2 := Lib.hid hB
      have b1 := hb1.trans (((U.below_bytesWorld w1 5 s).setCell (p := ⟨w1.heap.size, k, none⟩) (Nat.le_refl _) (.int .u8 (Go.bits .xor .u8 (s[k].toNat : Int) 32))).mono hb1.size)
      have B1 := Lib.hid b1
      clear hB b1 hc hf hb1
      go_wp2_with fail
      refine (HP.out _).mono ?_
      rintro e w2 ⟨rfl, hb2⟩
      have HB3 := Lib.hid (BytesAt_alloc (HB2.out.below hb2) (.cells #[.string x1, .string x2, .string x3] 24))
      have B2 := Lib.hid ((B1.out.trans (hb2.mono B1.out.size)))
      clear hb2
      have hcv := HB3.out.text (P := Tryd.prog) 39 9 5 (grownCap w1 s.size 0 5) Tryd.underlying39 Tryd.underlying5 Tryd.underlying9
      rw [List.length_set, hlen] at hcv
      go_wp2_with fail
      refine (HQ.out _).mono ?_
      rintro e w3 ⟨rfl, hb3⟩
      have x0 := ((U.At.new w2 24 #[.string x1, .string x2, .string x3]).below hb3)
      have hne := x0.lt
      have c0 := x0.cell 0 _ rfl
      have c1 := x0.cell 1 _ rfl
      have c2 := x0.cell 2 _ rfl
      have B3 := Lib.hid ((B2.out.alloc B2.out.size (.cells #[.string x1, .string x2, .string x3] 24)).trans (hb3.mono (by have := B2.out.size; simp; omega)))
      clear hb3 x0 hcv
      go_wp2_with fail
      refine (num_0 _).mono ?_
      rintro e w4 ⟨rfl, rfl⟩
      go_wp2_with fail
      refine (num_0 _).mono ?_
      rintro e w4 ⟨rfl, rfl⟩
      go_wp2_with fail
      refine (num_0 _).mono ?_
      rintro e w4 ⟨rfl, rfl⟩
      go_wp2_with fail
      refine (live_any _).mono ?_
      rintro e w4 ⟨rfl, hb4⟩
      have B4 := (B3.out.alloc B3.out.size (.cells #[.string y1, .string y2, .string y3] 24)).trans (hb4.mono (by have := B3.out.size; simp; omega))
      clear hb4
      go_wp2
      go_ret
      exact ⟨rfl, B4⟩

set_option maxHeartbeats 2000000 in
theorem JidCase_h (s F : ByteArray) (n : Nat) (h0 : ¬ (4000 : Int) < (s.size : Int)) (hn : n < s.size) (hF : n < F.size) (HF : FoldSays s F) (h1 : ¬ (F[n].toNat : Int) < 97) (h2 : ¬ (122 : Int) < (F[n].toNat : Int))
    (x1 x2 x3 y1 y2 y3 : ByteArray) (HP : ParseSays s x1 x2 x3 0) (HQ : ParseSays ⟨(s.data.toList.set n (flip s[n])).toArray⟩ y1 y2 y3 0) (HB : Hid ((s.data.toList.take n).contains 47 = true)) (e1 : x1.toList = y1.toList) (e2 : x2.toList = y2.toList) (e3 : ¬ x3.toList = y3.toList) (w : World) :
    Calls Tryd.prog 6 #[.string s, .int .i64 n] w fun e w' => e = .returned (.bool true) ∧ Below w.heap.size w w' := by
  have hcv := fun (w : World) => Lib.run_convert_string_bytes (P := Tryd.prog) w 9 39 5 s Tryd.underlying9 Tryd.underlying39 Tryd.underlying5
  have HX := Lib.hid (flip_bits s[n])
  go_enter Tryd.func6, Tryd.ntmps6
  go_wp2_with fail
  refine (HF.out _).mono ?_
  rintro e w1 ⟨rfl, hb1⟩
  have hat := U.BytesAt.new w1 s
  have hlen := U.len_data s
  obtain ⟨hc, hf⟩ := hat n (by rw [hlen]; exact hn)
  have hg : s.data.toList[n]'(by rw [hlen]; exact hn) = s[n] := rfl
  rw [hg] at hc
  have HAT := Lib.hid hat
  clear hat hg
  go_wp2
  go_loop [7, 8] (fun t i => ∃ k : Nat, ∃ bb : Bool, k ≤ n ∧ i = .int .i64 k ∧ t = .bool bb ∧ Hid (bb = (s.data.toList.take k).contains 47)) (fun t i => n - (intOf i).toNat)
  case atStart => exact ⟨0, false, by omega, rfl, rfl, Lib.hid rfl⟩
  case round =>
    obtain ⟨k, bb, hk, rfl, rfl, HA⟩ := hrel
    by_cases hlt : k < n
    · have hks : k < s.size := by omega
      have HS := Lib.hid (bar_step s k hks)
      cases bb with
      | true =>
        go_wp2
        go_round
        case rel => exact ⟨k + 1, true, by omega, by go_num, rfl, Lib.hid (by rw [HS.out, ← HA.out]; rfl)⟩
        case measure => simp [intOf]; omega
      | false =>
        go_wp2
        go_round
        case rel => exact ⟨k + 1, ((s[k].toNat : Int) == 47), by omega, by go_num, by first | rfl | simp, Lib.hid (by rw [HS.out, ← HA.out]; rfl)⟩
        case measure => simp [intOf]; omega
    · obtain rfl : k = n := by omega

      obtain rfl : bb = true := HA.out.trans HB.out

      clear hcv
      have hB := HAT.out.set k (flip s[k]) (.int .u8 (Go.bits .xor .u8 (s[k].toNat : Int) 32)) (by rw [HX.out])
      have HB2 := Lib.hid hB
      have b1 := hb1.trans (((U.below_bytesWorld w1 5 s).setCell (p := ⟨w1.heap.size, k, none⟩) (Nat.le_refl _) (.int .u8 (Go.bits .xor .u8 (s[k].toNat : Int) 32))).mono hb1.size)
      have B1 := Lib.hid b1
      clear hB b1 hc hf hb1
      go_wp2_with fail
      refine (HP.out _).mono ?_
      rintro e w2 ⟨rfl, hb2⟩
      have HB3 := Lib.hid (BytesAt_alloc (HB2.out.below hb2) (.cells #[.string x1, .string x2, .string x3] 24))
      have B2 := Lib.hid ((B1.out.trans (hb2.mono B1.out.size)))
      clear hb2
      have hcv := HB3.out.text (P := Tryd.prog) 39 9 5 (grownCap w1 s.size 0 5) Tryd.underlying39 Tryd.underlying5 Tryd.underlying9
      rw [List.length_set, hlen] at hcv
      go_wp2_with fail
      refine (HQ.out _).mono ?_
      rintro e w3 ⟨rfl, hb3⟩
      have x0 := ((U.At.new w2 24 #[.string x1, .string x2, .string x3]).below hb3)
      have hne := x0.lt
      have c0 := x0.cell 0 _ rfl
      have c1 := x0.cell 1 _ rfl
      have c2 := x0.cell 2 _ rfl
      have B3 := Lib.hid ((B2.out.alloc B2.out.size (.cells #[.string x1, .string x2, .string x3] 24)).trans (hb3.mono (by have := B2.out.size; simp; omega)))
      clear hb3 x0 hcv
      go_wp2_with fail
      refine (num_0 _).mono ?_
      rintro e w4 ⟨rfl, rfl⟩
      go_wp2_with fail
      refine (num_0 _).mono ?_
      rintro e w4 ⟨rfl, rfl⟩
      go_wp2_with fail
      refine (num_0 _).mono ?_
      rintro e w4 ⟨rfl, rfl⟩
      go_wp2_with fail
      refine (live_any _).mono ?_
      rintro e w4 ⟨rfl, hb4⟩
      have B4 := (B3.out.alloc B3.out.size (.cells #[.string y1, .string y2, .string y3] 24)).trans (hb4.mono (by have := B3.out.size; simp; omega))
      clear hb4
      go_wp2
      go_ret
      exact ⟨rfl, B4⟩

end Go.Proofs.YthifpbaebbodoaaDoor.Jid
