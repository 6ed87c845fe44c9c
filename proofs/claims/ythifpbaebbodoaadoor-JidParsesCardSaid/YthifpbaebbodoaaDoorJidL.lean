/- wharflaw03's helpers: num, small, live. -/
import Derived.Test.YthifpbaebbodoaaDoorJidD
set_option linter.unusedVariables false
set_option linter.unusedSimpArgs false
namespace Go.Proofs.YthifpbaebbodoaaDoor.Jid
open Go.RowKit GlyP Gly Strs JidP

theorem num_0 (w : World) : Calls Tryd.prog 12 #[.int .i64 0] w fun e w' => e = .returned (.int .i64 0) ∧ w = w' := by
  go_enter Tryd.func12, Tryd.ntmps12
  go_wp2
  go_ret
  exact ⟨rfl, rfl⟩
theorem num_30 (w : World) : Calls Tryd.prog 12 #[.int .i64 30] w fun e w' => e = .returned (.int .i64 30) ∧ w = w' := by
  go_enter Tryd.func12, Tryd.ntmps12
  go_wp2
  go_ret
  exact ⟨rfl, rfl⟩
theorem fld2 (a b c : ByteArray) (w : World) : (Instr.field 24 (.agg #[.string a, .string b, .string c]) 2).run Tryd.prog w = .ok (.string c) w := by kernel_rfl
def Low (s : ByteArray) : Prop := s.size ≤ 140737488351232
theorem small_any (a b c : ByteArray) (ha : Low a) (hb : Low b) (hc : Low c) (w : World) :
    Calls Tryd.prog 13 #[.agg #[.string a, .string b, .string c]] w fun e w' => e = .returned (.bool (decide (a.size + b.size + c.size ≤ 4000))) ∧ Below w.heap.size w w' := by
  unfold Low at ha hb hc
  by_cases h : a.size + b.size + c.size ≤ 4000
  · have HV := Lib.hid (decide_eq_true h)
    go_enter Tryd.func13, Tryd.ntmps13
    go_wp2
    go_ret
    exact ⟨by rw [HV.out]; go_num, (Below.refl _ w).alloc (Nat.le_refl _) _⟩
  · have HV := Lib.hid (decide_eq_false h)
    go_enter Tryd.func13, Tryd.ntmps13
    go_wp2
    go_ret
    exact ⟨by rw [HV.out]; go_num, (Below.refl _ w).alloc (Nat.le_refl _) _⟩

def exN : ByteArray := ⟨#[106, 117, 108, 105, 101, 116]⟩
def exD : ByteArray := ⟨#[101, 120, 97, 109, 112, 108, 101, 46, 99, 111, 109]⟩
def exR : ByteArray := ⟨#[66, 97, 108, 99, 111, 110, 121]⟩
def exP : ByteArray := ⟨#[106, 117, 108, 105, 101, 116, 64, 101, 120, 97, 109, 112, 108, 101, 46, 99, 111, 109, 47, 66, 97, 108, 99, 111, 110, 121]⟩
theorem ex_parse (w : World) : Calls Tryd.prog 10 #[.string ⟨#[74, 117, 108, 105, 101, 116, 64, 69, 120, 97, 109, 112, 108, 101, 46, 67, 79, 77, 46, 47, 66, 97, 108, 99, 111, 110, 121]⟩] w fun e w' =>
    e = .returned (.tuple #[.agg #[.string ⟨#[106, 117, 108, 105, 101, 116]⟩, .string ⟨#[101, 120, 97, 109, 112, 108, 101, 46, 99, 111, 109]⟩, .string ⟨#[66, 97, 108, 99, 111, 110, 121]⟩], .int .i64 0]) ∧ Below w.heap.size w w' := by
  have h := Parse_any ⟨#[74, 117, 108, 105, 101, 116, 64, 69, 120, 97, 109, 112, 108, 101, 46, 67, 79, 77, 46, 47, 66, 97, 108, 99, 111, 110, 121]⟩ (by decide) w
  have hp : parse [74, 117, 108, 105, 101, 116, 64, 69, 120, 97, 109, 112, 108, 101, 46, 67, 79, 77, 46, 47, 66, 97, 108, 99, 111, 110, 121] = some ⟨[106, 117, 108, 105, 101, 116], [101, 120, 97, 109, 112, 108, 101, 46, 99, 111, 109], [66, 97, 108, 99, 111, 110, 121]⟩ := by decide +kernel
  unfold parseV at h
  rw [show (⟨#[74, 117, 108, 105, 101, 116, 64, 69, 120, 97, 109, 112, 108, 101, 46, 67, 79, 77, 46, 47, 66, 97, 108, 99, 111, 110, 121]⟩ : ByteArray).data.toList = [74, 117, 108, 105, 101, 116, 64, 69, 120, 97, 109, 112, 108, 101, 46, 67, 79, 77, 46, 47, 66, 97, 108, 99, 111, 110, 121] from rfl, hp] at h
  exact h
theorem ex_bad (w : World) : Calls Tryd.prog 10 #[.string ⟨#[64, 120]⟩] w fun e w' => e = .returned (.tuple #[.agg #[.string ⟨#[]⟩, .string ⟨#[]⟩, .string ⟨#[]⟩], .int .i64 30]) ∧ Below w.heap.size w w' := by
  have h := Parse_any ⟨#[64, 120]⟩ (by decide) w
  have hp : parse [64, 120] = none := by decide +kernel
  unfold parseV at h
  rw [show (⟨#[64, 120]⟩ : ByteArray).data.toList = [64, 120] from rfl, hp] at h
  exact h
theorem ex_put (w : World) : Calls Tryd.prog 16 #[.agg #[.string ⟨#[106, 117, 108, 105, 101, 116]⟩, .string ⟨#[101, 120, 97, 109, 112, 108, 101, 46, 99, 111, 109]⟩, .string ⟨#[66, 97, 108, 99, 111, 110, 121]⟩]] w fun e w' =>
    e = .returned (.string ⟨#[106, 117, 108, 105, 101, 116, 64, 101, 120, 97, 109, 112, 108, 101, 46, 99, 111, 109, 47, 66, 97, 108, 99, 111, 110, 121]⟩) ∧ Below w.heap.size w w' := by
  have h := Put_any exN exD exR (by decide) (by decide) (by decide) w
  rw [show putB exN exD exR = exP from by
    have : (putB exN exD exR).data.toList = exP.data.toList := by decide +kernel
    rw [U.mk_data _ _ this]] at h
  exact h
theorem ex_check (w : World) : Calls Tryd.prog 14 #[.agg #[.string ⟨#[]⟩, .string ⟨#[]⟩, .string ⟨#[]⟩]] w fun e w' => e = .returned (.int .i64 30) ∧ Below w.heap.size w w' := by
  have h := Check_any ⟨#[]⟩ ⟨#[]⟩ ⟨#[]⟩ (by decide) (by decide) (by decide) w
  rw [show ok (jOf ⟨#[]⟩ ⟨#[]⟩ ⟨#[]⟩) = false from by decide +kernel] at h
  exact h

/-- The worlds of a walk: these blocks hold these addresses; what was there ahead is as it was. -/
structure Keep (w0 : World) (bs : List (Nat × ByteArray × ByteArray × ByteArray)) (w : World) : Prop where
  cells : ∀ p ∈ bs, U.At p.1 24 #[.string p.2.1, .string p.2.2.1, .string p.2.2.2] w
  low : Below w0.heap.size w0 w
theorem Keep.start (w : World) : Keep w [] w := ⟨fun _ h => absurd h List.not_mem_nil, Below.refl _ _⟩
theorem Keep.below {w0 : World} {bs : List (Nat × ByteArray × ByteArray × ByteArray)} {w w' : World} (h : Keep w0 bs w) (hb : Below w.heap.size w w') : Keep w0 bs w' :=
  ⟨fun p hp => (h.cells p hp).below hb, h.low.trans (hb.mono h.low.size)⟩
theorem Keep.alloc {w0 : World} {bs : List (Nat × ByteArray × ByteArray × ByteArray)} {w : World} (h : Keep w0 bs w) (a b c : ByteArray) : Keep w0 ((w.heap.size, a, b, c) :: bs) (w.alloc (.cells #[.string a, .string b, .string c] 24)) := by
  refine ⟨fun p hp => ?_, h.low.alloc h.low.size _⟩
  rcases List.mem_cons.1 hp with rfl | hp
  · exact U.At.new w _ _
  · exact (h.cells p hp).alloc _
theorem Keep.drew {w0 : World} {bs : List (Nat × ByteArray × ByteArray × ByteArray)} {w : World} (h : Keep w0 bs w) : Keep w0 bs w.drew :=
  ⟨fun p hp => U.At.drewN (h.cells p hp) 1, U.below_drewN h.low 1⟩
theorem Keep.lt {w0 : World} {bs : List (Nat × ByteArray × ByteArray × ByteArray)} {w : World} (h : Keep w0 bs w) (g : Nat) (a b c : ByteArray) (hm : (g, a, b, c) ∈ bs) : g < w.heap.size := (h.cells _ hm).lt
theorem Keep.box {w0 : World} {bs : List (Nat × ByteArray × ByteArray × ByteArray)} {w : World} (h : Keep w0 bs w) (g : Nat) (a b c : ByteArray) (hm : (g, a, b, c) ∈ bs) :
    w.cell? ⟨g, 0, none⟩ = some (.string a) ∧ w.cell? ⟨g, 1, none⟩ = some (.string b) ∧ w.cell? ⟨g, 2, none⟩ = some (.string c) :=
  ⟨(h.cells _ hm).cell 0 _ rfl, (h.cells _ hm).cell 1 _ rfl, (h.cells _ hm).cell 2 _ rfl⟩

set_option maxHeartbeats 2000000 in
theorem live_any (w : World) : Calls Tryd.prog 9 #[] w fun e w' => e = .returned (.bool true) ∧ Below w.heap.size w w' := by
  have K0 := Lib.hid (Keep.start w)
  have hfd := fld2
  go_enter Tryd.func9, Tryd.ntmps9
  go_wp2_with fail
  refine (ex_parse _).mono ?_
  rintro e w1 ⟨rfl, hb1⟩
  have K1 := Lib.hid ((K0.out.below hb1).alloc ⟨#[106, 117, 108, 105, 101, 116]⟩ ⟨#[101, 120, 97, 109, 112, 108, 101, 46, 99, 111, 109]⟩ ⟨#[66, 97, 108, 99, 111, 110, 121]⟩)
  clear hb1
  go_wp2_with fail
  refine (ex_bad _).mono ?_
  rintro e w2 ⟨rfl, hb2⟩
  have K2 := Lib.hid ((K1.out.below hb2).alloc ⟨#[]⟩ ⟨#[]⟩ ⟨#[]⟩)
  obtain ⟨c0, c1, c2⟩ := (K1.out.below hb2).box w1.heap.size _ _ _ List.mem_cons_self
  have hne := (K1.out.below hb2).lt w1.heap.size _ _ _ List.mem_cons_self
  clear hb2
  go_wp2_with fail
  refine (num_0 _).mono ?_
  rintro e w3 ⟨rfl, rfl⟩
  go_wp2_with fail
  refine (num_30 _).mono ?_
  rintro e w3 ⟨rfl, rfl⟩
  go_wp2_with fail
  refine (ex_put _).mono ?_
  rintro e w3 ⟨rfl, hb3⟩
  have K3 := Lib.hid (K2.out.below hb3)
  obtain ⟨d0, d1, d2⟩ := K3.out.box w1.heap.size _ _ _ (List.mem_cons_of_mem _ List.mem_cons_self)
  clear hb3
  go_wp2_with fail
  refine (Bare_any _ _ _ _).mono ?_
  rintro e w4 ⟨rfl, hb4⟩
  have K4 := Lib.hid (K3.out.below hb4)
  clear hb4
  go_wp2_with fail
  refine (ex_check _).mono ?_
  rintro e w5 ⟨rfl, hb5⟩
  have K5 := Lib.hid (K4.out.below hb5)
  clear hb5
  go_wp2_with fail
  refine (num_30 _).mono ?_
  rintro e w6 ⟨rfl, rfl⟩
  go_wp2
  go_ret
  exact ⟨rfl, K5.out.low⟩
end Go.Proofs.YthifpbaebbodoaaDoor.Jid
