/- wharflaw07: the laws. -/
import Derived.Test.YtcgopnknnolhkaaDgO
import Derived.Test.YtcgopnknnolhkaaDgK
set_option linter.unusedVariables false
set_option linter.unusedSimpArgs false
namespace Go.Proofs.Ytcgopnknnolhkaa.Dg
open Go.RowKit U
def T (l : List UInt8) : ByteArray := ⟨l.toArray⟩
theorem T_data (l : List UInt8) : (T l).data.toList = l := rfl
theorem T_size (l : List UInt8) : (T l).size = l.length := rfl
theorem lv1 : hex (md5 [97, 98, 99]) = [57, 48, 48, 49, 53, 48, 57, 56, 51, 99, 100, 50, 52, 102, 98, 48, 100, 54, 57, 54, 51, 102, 55, 100, 50, 56, 101, 49, 55, 102, 55, 50] := by decide +kernel
theorem lv2 : hex (md5 []) = [100, 52, 49, 100, 56, 99, 100, 57, 56, 102, 48, 48, 98, 50, 48, 52, 101, 57, 56, 48, 48, 57, 57, 56, 101, 99, 102, 56, 52, 50, 55, 101] := by decide +kernel
theorem lv3 : hex (sha1 [97, 98, 99]) = [97, 57, 57, 57, 51, 101, 51, 54, 52, 55, 48, 54, 56, 49, 54, 97, 98, 97, 51, 101, 50, 53, 55, 49, 55, 56, 53, 48, 99, 50, 54, 99, 57, 99, 100, 48, 100, 56, 57, 100] := by decide +kernel
theorem md5s (s : ByteArray) (hs : s.size ≤ 50000) : ∃ D : ByteArray, D = T (md5 s.data.toList) ∧ D.size = 16 ∧ (∀ w, Calls Try.prog 8 #[.string s] w fun e w' => e = .returned (.string D) ∧ Below w.heap.size w w') ∧ (∀ w, Calls Try.prog 9 #[.string s] w fun e w' => e = .returned (.string D) ∧ Below w.heap.size w w') :=
  ⟨_, rfl, md5_length _, fun w => Md5_any s hs w, fun w => RMd5_any s hs w⟩
theorem sha1s (s : ByteArray) (hs : s.size ≤ 50000) : ∃ D : ByteArray, D = T (sha1 s.data.toList) ∧ D.size = 20 ∧ (∀ w, Calls Try.prog 10 #[.string s] w fun e w' => e = .returned (.string D) ∧ Below w.heap.size w w') ∧ (∀ w, Calls Try.prog 11 #[.string s] w fun e w' => e = .returned (.string D) ∧ Below w.heap.size w w') :=
  ⟨_, rfl, sha1_length _, fun w => Sha1_any s hs w, fun w => RSha1_any s hs w⟩
theorem hexs (s : ByteArray) (hs : s.size ≤ 50000) : ∃ D : ByteArray, D = T (hex s.data.toList) ∧ D.size = 2 * s.size ∧ (∀ w, Calls Try.prog 12 #[.string s] w fun e w' => e = .returned (.string D) ∧ Below w.heap.size w w') ∧ (∀ w, Calls Try.prog 13 #[.string s] w fun e w' => e = .returned (.string D) ∧ Below w.heap.size w w') :=
  ⟨_, rfl, by rw [T_size, hex_length, U.len_data], fun w => Hex_any s hs w, fun w => RHex_any s hs w⟩
set_option maxHeartbeats 1000000 in
theorem live_any (w : World) : Calls Try.prog 7 #[] w fun e w' => e = .returned (.bool true) ∧ Below w.heap.size w w' := by
  obtain ⟨M1, e1, z1, c1, -⟩ := md5s ⟨#[97, 98, 99]⟩ (by decide)
  obtain ⟨X1, x1, -, d1, -⟩ := hexs M1 (by omega)
  obtain ⟨M2, e2, z2, c2, -⟩ := md5s ⟨#[]⟩ (by decide)
  obtain ⟨X2, x2, -, d2, -⟩ := hexs M2 (by omega)
  obtain ⟨M3, e3, z3, c3, -⟩ := sha1s ⟨#[97, 98, 99]⟩ (by decide)
  obtain ⟨X3, x3, -, d3, -⟩ := hexs M3 (by omega)
  have q1 : (X1.toList == [57, 48, 48, 49, 53, 48, 57, 56, 51, 99, 100, 50, 52, 102, 98, 48, 100, 54, 57, 54, 51, 102, 55, 100, 50, 56, 101, 49, 55, 102, 55, 50]) = true := by
    have e : X1 = ⟨#[57, 48, 48, 49, 53, 48, 57, 56, 51, 99, 100, 50, 52, 102, 98, 48, 100, 54, 57, 54, 51, 102, 55, 100, 50, 56, 101, 49, 55, 102, 55, 50]⟩ := by rw [x1, e1, T_data]; exact congrArg T lv1
    rw [e]; decide +kernel
  have q2 : (X2.toList == [100, 52, 49, 100, 56, 99, 100, 57, 56, 102, 48, 48, 98, 50, 48, 52, 101, 57, 56, 48, 48, 57, 57, 56, 101, 99, 102, 56, 52, 50, 55, 101]) = true := by
    have e : X2 = ⟨#[100, 52, 49, 100, 56, 99, 100, 57, 56, 102, 48, 48, 98, 50, 48, 52, 101, 57, 56, 48, 48, 57, 57, 56, 101, 99, 102, 56, 52, 50, 55, 101]⟩ := by rw [x2, e2, T_data]; exact congrArg T lv2
    rw [e]; decide +kernel
  have q3 : (X3.toList == [97, 57, 57, 57, 51, 101, 51, 54, 52, 55, 48, 54, 56, 49, 54, 97, 98, 97, 51, 101, 50, 53, 55, 49, 55, 56, 53, 48, 99, 50, 54, 99, 57, 99, 100, 48, 100, 56, 57, 100]) = true := by
    have e : X3 = ⟨#[97, 57, 57, 57, 51, 101, 51, 54, 52, 55, 48, 54, 56, 49, 54, 97, 98, 97, 51, 101, 50, 53, 55, 49, 55, 56, 53, 48, 99, 50, 54, 99, 57, 99, 100, 48, 100, 56, 57, 100]⟩ := by rw [x3, e3, T_data]; exact congrArg T lv3
    rw [e]; decide +kernel
  have C1 := Lib.hid c1
  have D1 := Lib.hid d1
  have C2 := Lib.hid c2
  have D2 := Lib.hid d2
  have C3 := Lib.hid c3
  have D3 := Lib.hid d3
  clear e1 e2 e3 x1 x2 x3 z1 z2 z3 c1 c2 c3 d1 d2 d3
  go_enter Try.func7, Try.ntmps7
  go_wp2_with fail
  refine (C1.out _).mono ?_
  rintro e w1 ⟨rfl, b1⟩
  have B1 := Lib.hid b1
  clear b1
  go_wp2_with fail
  refine (D1.out _).mono ?_
  rintro e w2 ⟨rfl, b2⟩
  have B2 := Lib.hid (B1.out.trans (b2.mono B1.out.size))
  clear b2
  go_wp2_with fail
  refine (C2.out _).mono ?_
  rintro e w3 ⟨rfl, b3⟩
  have B3 := Lib.hid (B2.out.trans (b3.mono B2.out.size))
  clear b3
  go_wp2_with fail
  refine (D2.out _).mono ?_
  rintro e w4 ⟨rfl, b4⟩
  have B4 := Lib.hid (B3.out.trans (b4.mono B3.out.size))
  clear b4
  go_wp2_with fail
  refine (C3.out _).mono ?_
  rintro e w5 ⟨rfl, b5⟩
  have B5 := Lib.hid (B4.out.trans (b5.mono B4.out.size))
  clear b5
  go_wp2_with fail
  refine (D3.out _).mono ?_
  rintro e w6 ⟨rfl, b6⟩
  have B6 := Lib.hid (B5.out.trans (b6.mono B5.out.size))
  clear b6
  go_wp2
  go_ret
  exact ⟨rfl, B6.out⟩
set_option maxHeartbeats 1000000 in
theorem DigestMd5_walk (s : ByteArray) (hs : s.size ≤ 140737488351232) (w : World) : Calls Try.prog 3 #[.string s] w fun e w' => e = .returned (.bool true) ∧ Below w.heap.size w w' := by
  have HL := Lib.hid live_any
  by_cases h : s.size ≤ 3000
  · obtain ⟨D, -, -, c1, c2⟩ := md5s s (by omega)
    have C1 := Lib.hid c1
    have C2 := Lib.hid c2
    have hq : (D.toList == D.toList) = true := beq_self_eq_true _
    clear c1 c2
    go_enter Try.func3, Try.ntmps3
    go_wp2_with fail
    refine (C1.out _).mono ?_
    rintro e w1 ⟨rfl, b1⟩
    have B1 := Lib.hid b1
    clear b1
    go_wp2_with fail
    refine (C2.out _).mono ?_
    rintro e w2 ⟨rfl, b2⟩
    have B2 := Lib.hid (B1.out.trans (b2.mono B1.out.size))
    clear b2
    go_wp2_with fail
    refine (HL.out _).mono ?_
    rintro e w3 ⟨rfl, b3⟩
    have B3 := Lib.hid (B2.out.trans (b3.mono B2.out.size))
    clear b3
    go_wp2
    go_ret
    exact ⟨rfl, B3.out⟩
  · go_enter Try.func3, Try.ntmps3
    go_wp2_with fail
    refine (HL.out _).mono ?_
    rintro e w1 ⟨rfl, b1⟩
    have B1 := Lib.hid b1
    clear b1
    go_wp2
    go_ret
    exact ⟨rfl, B1.out⟩
set_option maxHeartbeats 1000000 in
theorem DigestSha1_walk (s : ByteArray) (hs : s.size ≤ 140737488351232) (w : World) : Calls Try.prog 4 #[.string s] w fun e w' => e = .returned (.bool true) ∧ Below w.heap.size w w' := by
  have HL := Lib.hid live_any
  by_cases h : s.size ≤ 3000
  · obtain ⟨D, -, -, c1, c2⟩ := sha1s s (by omega)
    have C1 := Lib.hid c1
    have C2 := Lib.hid c2
    have hq : (D.toList == D.toList) = true := beq_self_eq_true _
    clear c1 c2
    go_enter Try.func4, Try.ntmps4
    go_wp2_with fail
    refine (C1.out _).mono ?_
    rintro e w1 ⟨rfl, b1⟩
    have B1 := Lib.hid b1
    clear b1
    go_wp2_with fail
    refine (C2.out _).mono ?_
    rintro e w2 ⟨rfl, b2⟩
    have B2 := Lib.hid (B1.out.trans (b2.mono B1.out.size))
    clear b2
    go_wp2_with fail
    refine (HL.out _).mono ?_
    rintro e w3 ⟨rfl, b3⟩
    have B3 := Lib.hid (B2.out.trans (b3.mono B2.out.size))
    clear b3
    go_wp2
    go_ret
    exact ⟨rfl, B3.out⟩
  · go_enter Try.func4, Try.ntmps4
    go_wp2_with fail
    refine (HL.out _).mono ?_
    rintro e w1 ⟨rfl, b1⟩
    have B1 := Lib.hid b1
    clear b1
    go_wp2
    go_ret
    exact ⟨rfl, B1.out⟩
end Go.Proofs.Ytcgopnknnolhkaa.Dg
