/- wharflaw07.DigestLengths. -/
import Derived.Test.YtcgopnknnolhkaaDgQ
set_option linter.unusedVariables false
set_option linter.unusedSimpArgs false
namespace Go.Proofs.Ytcgopnknnolhkaa.Dg
open Go.RowKit U
set_option maxHeartbeats 2000000 in
theorem DigestLengths_walk (s t : ByteArray) (hs : s.size ≤ 140737488351232) (ht : t.size ≤ 140737488351232) (w : World) : Calls Try.prog 5 #[.string s, .string t] w fun e w' => e = .returned (.bool true) ∧ Below w.heap.size w w' := by
  have HL := Lib.hid live_any
  by_cases h : s.size + t.size ≤ 3000
  · obtain ⟨X, xe, xz, x1, -⟩ := hexs s (by omega)
    obtain ⟨Y, ye, yz, y1, -⟩ := hexs t (by omega)
    obtain ⟨Z, ze, zz, z1, -⟩ := hexs (s ++ t) (by rw [ByteArray.size_append]; omega)
    obtain ⟨M, -, mz, m1, -⟩ := md5s s (by omega)
    obtain ⟨A, -, az, a1, -⟩ := sha1s s (by omega)
    have HD : Hid (∀ k (hk : k < X.size), isD X[k]) := Lib.hid (by rw [xe]; exact T_isD _)
    have HE : Hid ((X.toList == Y.toList) = (s.toList == t.toList)) := Lib.hid (by rw [xe, ye]; exact T_eq s t)
    have HZ : Hid (Z = X ++ Y) := Lib.hid (by
      rw [ze, xe, ye]
      have e : (s ++ t).data.toList = s.data.toList ++ t.data.toList := by simp
      rw [e, hex_app]
      apply ByteArray.ext
      simp [T])
    have X1 := Lib.hid x1
    have Y1 := Lib.hid y1
    have Z1 := Lib.hid z1
    have M1 := Lib.hid m1
    have A1 := Lib.hid a1
    clear xe ye ze zz x1 y1 z1 m1 a1
    go_enter Try.func5, Try.ntmps5
    go_wp2_with fail
    refine (X1.out _).mono ?_
    rintro e w1 ⟨rfl, b1⟩
    have B1 := Lib.hid b1
    clear b1
    go_wp2
    go_loopw [6] (fun i wq => ∃ k : Nat, k ≤ X.size ∧ i = .int .i64 k ∧ Hid (Below w.heap.size w wq)) (fun i _ => X.size - (intOf i).toNat)
    case atStart => exact ⟨0, by omega, rfl, B1⟩
    case round =>
      obtain ⟨k, hk, rfl, HB⟩ := hrel
      by_cases hlt : k < X.size
      · have hd := HD.out k hlt
        unfold isD at hd
        rcases hd with ⟨d1, d2⟩ | ⟨d1, d2⟩
        · have e1 : (48 : Int) ≤ (X[k].toNat : Int) := by omega
          have e2 : (X[k].toNat : Int) ≤ 57 := by omega
          go_wp2
          go_roundw
          case rel => exact ⟨k + 1, by omega, by go_num, HB⟩
          case measure => simp [intOf]; omega
        · have e1 : (48 : Int) ≤ (X[k].toNat : Int) := by omega
          have e2 : ¬ (X[k].toNat : Int) ≤ 57 := by omega
          have e3 : (97 : Int) ≤ (X[k].toNat : Int) := by omega
          have e4 : (X[k].toNat : Int) ≤ 102 := by omega
          go_wp2
          go_roundw
          case rel => exact ⟨k + 1, by omega, by go_num, HB⟩
          case measure => simp [intOf]; omega
      · have hz := HZ.out
        cases hst : (s.toList == t.toList) with
        | true =>
          have hxy := HE.out
          rw [hst] at hxy
          have hzz : (Z.toList == (X ++ Y).toList) = true := by rw [hz]; exact beq_self_eq_true _
          have m16 : (M.size : Int) = 16 := by omega
          have a20 : (A.size : Int) = 20 := by omega
          have x2 : (X.size : Int) = 2 * (s.size : Int) := by omega
          clear hz
          go_wp2_with fail
          refine (M1.out _).mono ?_
          rintro e w2 ⟨rfl, b2⟩
          have B2 := Lib.hid (HB.out.trans (b2.mono HB.out.size))
          clear b2
          go_wp2_with fail
          refine (A1.out _).mono ?_
          rintro e w3 ⟨rfl, b3⟩
          have B3 := Lib.hid (B2.out.trans (b3.mono B2.out.size))
          clear b3
          go_wp2_with fail
          refine (Y1.out _).mono ?_
          rintro e w4 ⟨rfl, b4⟩
          have B4 := Lib.hid (B3.out.trans (b4.mono B3.out.size))
          clear b4
          go_wp2_with fail
          refine (Z1.out _).mono ?_
          rintro e w5 ⟨rfl, b5⟩
          have B5 := Lib.hid (B4.out.trans (b5.mono B4.out.size))
          clear b5
          go_wp2_with fail
          refine (Y1.out _).mono ?_
          rintro e w6 ⟨rfl, b6⟩
          have B6 := Lib.hid (B5.out.trans (b6.mono B5.out.size))
          clear b6
          go_wp2_with fail
          refine (HL.out _).mono ?_
          rintro e w7 ⟨rfl, b7⟩
          have B7 := Lib.hid (B6.out.trans (b7.mono B6.out.size))
          clear b7
          go_wp2
          go_ret
          exact ⟨rfl, B7.out⟩
        | false =>
          have hxy := HE.out
          rw [hst] at hxy
          have hzz : (Z.toList == (X ++ Y).toList) = true := by rw [hz]; exact beq_self_eq_true _
          have m16 : (M.size : Int) = 16 := by omega
          have a20 : (A.size : Int) = 20 := by omega
          have x2 : (X.size : Int) = 2 * (s.size : Int) := by omega
          clear hz
          go_wp2_with fail
          refine (M1.out _).mono ?_
          rintro e w2 ⟨rfl, b2⟩
          have B2 := Lib.hid (HB.out.trans (b2.mono HB.out.size))
          clear b2
          go_wp2_with fail
          refine (A1.out _).mono ?_
          rintro e w3 ⟨rfl, b3⟩
          have B3 := Lib.hid (B2.out.trans (b3.mono B2.out.size))
          clear b3
          go_wp2_with fail
          refine (Y1.out _).mono ?_
          rintro e w4 ⟨rfl, b4⟩
          have B4 := Lib.hid (B3.out.trans (b4.mono B3.out.size))
          clear b4
          go_wp2_with fail
          refine (Z1.out _).mono ?_
          rintro e w5 ⟨rfl, b5⟩
          have B5 := Lib.hid (B4.out.trans (b5.mono B4.out.size))
          clear b5
          go_wp2_with fail
          refine (Y1.out _).mono ?_
          rintro e w6 ⟨rfl, b6⟩
          have B6 := Lib.hid (B5.out.trans (b6.mono B5.out.size))
          clear b6
          go_wp2_with fail
          refine (HL.out _).mono ?_
          rintro e w7 ⟨rfl, b7⟩
          have B7 := Lib.hid (B6.out.trans (b7.mono B6.out.size))
          clear b7
          go_wp2
          go_ret
          exact ⟨rfl, B7.out⟩
  · go_enter Try.func5, Try.ntmps5
    go_wp2_with fail
    refine (HL.out _).mono ?_
    rintro e w1 ⟨rfl, b1⟩
    have B1 := Lib.hid b1
    clear b1
    go_wp2
    go_ret
    exact ⟨rfl, B1.out⟩
end Go.Proofs.Ytcgopnknnolhkaa.Dg
