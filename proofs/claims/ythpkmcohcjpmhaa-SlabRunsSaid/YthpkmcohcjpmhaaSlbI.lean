/- wharflaw21: num, live. -/
import Derived.Test.YthpkmcohcjpmhaaSlbH
set_option linter.unusedVariables false
set_option linter.unusedSimpArgs false
namespace Go.Proofs.Ythpkmcohcjpmhaa.Slb
open Go.RowKit U
variable {gS gB : Nat} {s : S} {w : World}
theorem num_any (n : Int) (w : World) : Calls Try.prog 11 #[.int .i64 n] w fun e w' => e = .returned (.int .i64 n) ∧ w = w' := by
  go_enter Try.func11, Try.ntmps11
  go_wp2
  go_ret
  exact ⟨rfl, rfl⟩
theorem Is.below {w' : World} (h : Is gS gB s w) (hb : Below w.heap.size w w') : Is gS gB s w' := ⟨h.hs.below hb, h.hb.below hb, h.ne, h.len, h.few⟩
/-- A slab that was made behind w0. -/
structure Stand (w0 : World) (gS gB : Nat) (s : S) (w : World) : Prop where
  is : Is gS gB s w
  low : Below w0.heap.size w0 w
  q1 : w0.heap.size ≤ gS
  q2 : w0.heap.size ≤ gB
theorem Stand.below {w0 w' : World} (h : Stand w0 gS gB s w) (hb : Below w.heap.size w w') : Stand w0 gS gB s w' := ⟨h.is.below hb, h.low.trans (hb.mono h.low.size), h.q1, h.q2⟩
theorem Stand.post {w0 w' : World} {s' : S} {r : Value} {e : Ending} (h : Stand w0 gS gB s w) (hp : Post gS gB s' w r e w') : e = .returned r ∧ Stand w0 gS gB s' w' := ⟨hp.1, hp.2.1, h.low.trans (hp.2.2 _ h.q1 h.q2), h.q1, h.q2⟩
def zs : List UInt8 := List.replicate 64 0
def bA : ByteArray := ⟨(blk [97, 98, 99]).toArray⟩
def bX : ByteArray := ⟨(blk [120, 121, 122]).toArray⟩
def bY : ByteArray := ⟨(blk [120, 121]).toArray⟩
def s0 : S := ⟨List.replicate 2 (List.replicate 64 0), -1, 0, false, 0⟩
def s1 : S := ⟨[blk [97, 98, 99], zs], -1, 0, false, 1⟩
def s2 : S := ⟨[blk [97, 98, 99], zs], 0, 2, false, 1⟩
def s3 : S := ⟨[blk [97, 98, 99], blk [120, 121]], 0, 2, true, 1⟩
def s4 : S := ⟨[blk [97, 98, 99], blk [120, 121]], -1, 2, false, 1⟩
def Made (w0 : World) (s : S) (e : Ending) (w' : World) : Prop := ∃ gS gB, e = .returned (.tuple #[P gS, .int .i64 0]) ∧ Stand w0 gS gB s w'
theorem new_ok (n : Nat) (h : n ≤ 4096) (w : World) : Calls Try.prog 9 #[.int .i64 (n : Int)] w (Made w ⟨List.replicate n (List.replicate 64 0), -1, 0, false, 0⟩) :=
  (New_ok n h w).mono fun e w' ⟨gS, gB, he, h1, h2, h3, h4⟩ => ⟨gS, gB, he, h3, h4, h2, h1⟩
theorem arm_st {w0 : World} (h : Stand w0 gS gB s w) (a k : Int) : Calls Try.prog 15 #[P gS, .int .i64 a, .int .i64 k] w fun e w' => e = .returned (.tuple #[]) ∧ Stand w0 gS gB { s with after := max a (-1), keep := clamp k } w' :=
  (Arm_any h.is a k).mono fun e w' ⟨he, hi, hw⟩ => ⟨he, hi, by rw [hw]; exact ((h.low.setCell (p := ⟨gS, 1, none⟩) h.q1 _).setCell (p := ⟨gS, 2, none⟩) h.q1 _), h.q1, h.q2⟩
theorem mend_st {w0 : World} (h : Stand w0 gS gB s w) : Calls Try.prog 17 #[P gS] w fun e w' => e = .returned (.tuple #[]) ∧ Stand w0 gS gB { s with after := -1, dead := false } w' :=
  (Mend_any h.is).mono fun e w' ⟨he, hi, hw⟩ => ⟨he, hi, by rw [hw]; exact ((h.low.setCell (p := ⟨gS, 1, none⟩) h.q1 _).setCell (p := ⟨gS, 3, none⟩) h.q1 _), h.q1, h.q2⟩
theorem wr0 : wr s0.bs 0 bA.data.toList = [blk [97, 98, 99], zs] := by decide +kernel
theorem wr1 : wr [blk [97, 98, 99], zs] 1 (bX.data.toList.take 2) = [blk [97, 98, 99], blk [120, 121]] := by decide +kernel
theorem live_write0 {w0 : World} (h : Stand w0 gS gB s0 w) : Calls Try.prog 12 #[P gS, .int .i64 0, .string bA] w fun e w' => e = .returned (.int .i64 0) ∧ Stand w0 gS gB s1 w' := by
  have := Write_ok h.is 0 (by decide) rfl bA (by decide +kernel) (by decide) (by decide) (by decide) (by decide) (by decide)
  rw [wr0] at this
  exact this.mono fun e w' hp => h.post hp
theorem live_write1 {w0 : World} (h : Stand w0 gS gB s2 w) : Calls Try.prog 12 #[P gS, .int .i64 1, .string bX] w fun e w' => e = .returned (.int .i64 210) ∧ Stand w0 gS gB s3 w' := by
  have := Write_torn h.is 1 (by decide) rfl bX (by decide +kernel) rfl 2 rfl (by decide)
  rw [show s2.bs = [blk [97, 98, 99], zs] from rfl, wr1] at this
  exact this.mono fun e w' hp => h.post hp
theorem live_read0 (h : Is gS gB s4 w) : Calls Try.prog 22 #[P gS, .int .i64 0] w fun e w' => e = .returned (.tuple #[.string bA, .int .i64 0]) ∧ w = w' := Read_ok h 0 (by decide) rfl
theorem live_read1 (h : Is gS gB s4 w) : Calls Try.prog 22 #[P gS, .int .i64 1] w fun e w' => e = .returned (.tuple #[.string bY, .int .i64 0]) ∧ w = w' := Read_ok h 1 (by decide) rfl
theorem live_write2 (h : Is gS gB s4 w) (b : ByteArray) : Calls Try.prog 12 #[P gS, .int .i64 2, .string b] w fun e w' => e = .returned (.int .i64 2) ∧ w = w' := Write_begin h 2 b (by decide)
theorem blockA (w : World) : Calls Try.prog 24 #[.string ⟨#[97, 98, 99]⟩] w fun e w' => e = .returned (.string bA) ∧ Below w.heap.size w w' := block_any ⟨#[97, 98, 99]⟩ (by decide) w
theorem blockX (w : World) : Calls Try.prog 24 #[.string ⟨#[120, 121, 122]⟩] w fun e w' => e = .returned (.string bX) ∧ Below w.heap.size w w' := block_any ⟨#[120, 121, 122]⟩ (by decide) w
theorem blockY (w : World) : Calls Try.prog 24 #[.string ⟨#[120, 121]⟩] w fun e w' => e = .returned (.string bY) ∧ Below w.heap.size w w' := block_any ⟨#[120, 121]⟩ (by decide) w
set_option maxRecDepth 100000 in
set_option maxHeartbeats 2000000 in
theorem live_any (w : World) : Calls Try.prog 8 #[] w fun e w' => e = .returned (.bool true) ∧ Below w.heap.size w w' := by
  have HN : Hid (Calls Try.prog 9 #[.int .i64 2] w (Made w s0)) := Lib.hid (new_ok 2 (by decide) w)
  obtain ⟨A, hA⟩ : ∃ A, A = bA := ⟨_, rfl⟩
  obtain ⟨X, hX⟩ : ∃ X, X = bX := ⟨_, rfl⟩
  obtain ⟨Y, hY⟩ : ∃ Y, Y = bY := ⟨_, rfl⟩
  have HA : Hid (A = bA) := Lib.hid hA
  have HX : Hid (X = bX) := Lib.hid hX
  have HY : Hid (Y = bY) := Lib.hid hY
  clear hA hX hY
  go_enter Try.func8, Try.ntmps8
  go_wp2_with fail
  refine HN.out.mono ?_
  rintro e w1 ⟨gS, gB, rfl, h1⟩
  have H1 := Lib.hid h1
  clear h1 HN
  go_wp2_with fail
  refine (num_any _ _).mono ?_
  rintro e w2 ⟨rfl, rfl⟩
  go_wp2_with fail
  refine (blockA _).mono ?_
  rw [← HA.out]
  rintro e w2 ⟨rfl, hb⟩
  have H2 := Lib.hid (H1.out.below hb)
  clear hb
  go_wp2_with fail
  rw [HA.out]
  refine (live_write0 H2.out).mono ?_
  rintro e w3 ⟨rfl, h3⟩
  have H3 := Lib.hid h3
  clear h3
  go_wp2_with fail
  refine (num_any _ _).mono ?_
  rintro e w4 ⟨rfl, rfl⟩
  go_wp2_with fail
  refine (arm_st H3.out 0 2).mono ?_
  rintro e w4 ⟨rfl, h4⟩
  have H4 : Hid (Stand w gS gB s2 w4) := Lib.hid h4
  clear h4
  go_wp2_with fail
  refine (blockX _).mono ?_
  rintro e w5 ⟨rfl, hb⟩
  have H5 := Lib.hid (H4.out.below hb)
  clear hb
  go_wp2_with fail
  refine (live_write1 H5.out).mono ?_
  rintro e w6 ⟨rfl, h6⟩
  have H6 := Lib.hid h6
  clear h6
  go_wp2_with fail
  refine (Dead_any H6.out.is).mono ?_
  rintro e w7 ⟨rfl, rfl⟩
  go_wp2_with fail
  refine (mend_st H6.out).mono ?_
  rintro e w7 ⟨rfl, h7⟩
  have H7 : Hid (Stand w gS gB s4 w7) := Lib.hid h7
  clear h7
  go_wp2_with fail
  refine (live_read0 H7.out.is).mono ?_
  rw [← HA.out]
  rintro e w8 ⟨rfl, rfl⟩
  go_wp2_with fail
  refine (live_read1 H7.out.is).mono ?_
  rw [← HY.out]
  rintro e w8 ⟨rfl, rfl⟩
  go_wp2_with fail
  refine (num_any _ _).mono ?_
  rintro e w8 ⟨rfl, rfl⟩
  have hd3 : s3.dead = true := rfl
  rw [hd3]
  go_wp2_with fail
  refine (num_any _ _).mono ?_
  rintro e w8 ⟨rfl, rfl⟩
  go_wp2_with fail
  refine (num_any _ _).mono ?_
  rintro e w8 ⟨rfl, rfl⟩
  go_wp2_with fail
  refine (blockA _).mono ?_
  rw [← HA.out]
  rintro e w8 ⟨rfl, hb⟩
  have H8 := Lib.hid (H7.out.below hb)
  clear hb
  go_wp2_with fail
  refine (blockY _).mono ?_
  rw [← HY.out]
  rintro e w9 ⟨rfl, hb⟩
  have H9 := Lib.hid (H8.out.below hb)
  clear hb
  go_wp2_with fail
  refine (Writes_any H9.out.is).mono ?_
  rintro e w10 ⟨rfl, rfl⟩
  have hw3 : s4.writes = 1 := rfl
  rw [hw3]
  go_wp2_with fail
  refine (Len_any H9.out.is).mono ?_
  rintro e w10 ⟨rfl, rfl⟩
  have hl3 : (s4.bs.length : Int) = 2 := rfl
  rw [hl3]
  go_wp2_with fail
  refine (live_write2 H9.out.is _).mono ?_
  rintro e w10 ⟨rfl, rfl⟩
  go_wp2_with fail
  refine (num_any _ _).mono ?_
  rintro e w10 ⟨rfl, rfl⟩
  go_wp2
  go_ret
  exact ⟨rfl, H9.out.low⟩
end Go.Proofs.Ythpkmcohcjpmhaa.Slb
