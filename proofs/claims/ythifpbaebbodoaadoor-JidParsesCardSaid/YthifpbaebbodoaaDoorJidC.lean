/- jid.Parse at this translation. -/
import Derived.Test.YthifpbaebbodoaaDoorJidB
set_option linter.unusedVariables false
set_option linter.unusedSimpArgs false
namespace Go.Proofs.YthifpbaebbodoaaDoor.Jid
open Go.RowKit GlyP Gly Strs JidP

abbrev CutSays (c : UInt8) (s A B : ByteArray) (r : Bool) : Prop := Hid (∀ w, Calls Tryd.prog 24 #[.string s, .string ⟨#[c]⟩] w fun e w' => e = .returned (.tuple #[.string A, .string B, .bool r]) ∧ Below w.heap.size w w')
abbrev CheckSays (a b c : ByteArray) (r : Int) : Prop := Hid (∀ w, Calls Tryd.prog 14 #[.agg #[.string a, .string b, .string c]] w fun e w' => e = .returned (.int .i64 r) ∧ Below w.heap.size w w')
def bad : Value := .tuple #[.agg #[.string ⟨#[]⟩, .string ⟨#[]⟩, .string ⟨#[]⟩], .int .i64 30]

set_option maxHeartbeats 2000000 in
theorem Parse_tA (s B R N D X Y : ByteArray) (has : Bool) (w : World) (H1 : CutSays 47 s B R has) (H2 : CutSays 64 B N D true)
    (H3 : NormSays N D R X Y) (h0 : has = true) (h1 : R.size = 0) :
    Calls Tryd.prog 10 #[.string s] w fun e w' => e = .returned (bad) ∧ Below w.heap.size w w' := by
  subst h0
  have e1 := U.toList_nil R h1
  clear h1
  go_enter Tryd.func10, Tryd.ntmps10
  go_wp2_with fail
  refine (H1.out _).mono ?_
  rintro e w1 ⟨rfl, hb1⟩
  have r1 := (U.At.new w 24 #[.string ⟨#[]⟩, .string ⟨#[]⟩, .string ⟨#[]⟩]).below hb1
  have b1 := ((Below.refl _ w).alloc (Nat.le_refl _) (.cells #[.string ⟨#[]⟩, .string ⟨#[]⟩, .string ⟨#[]⟩] 24)).trans (hb1.mono (by simp))
  clear hb1
  go_wp2_with fail
  refine (H2.out _).mono ?_
  rintro e w2 ⟨rfl, hb2⟩
  have r2 := r1.below hb2
  have b2 := b1.trans (hb2.mono b1.size)
  clear hb2 r1 b1
  go_wp2_with fail
  refine (H3.out _).mono ?_
  rintro e w3 ⟨rfl, hb3⟩
  have r3' := r2.below hb3
  have b3' := b2.trans (hb3.mono b2.size)
  have d0 := r3'.cell 0 _ rfl
  have d1 := r3'.cell 1 _ rfl
  have d2 := r3'.cell 2 _ rfl
  have g0 := r3'.free 0
  have g1 := r3'.free 1
  have g2 := r3'.free 2
  have hne := r3'.lt
  have R3 := Lib.hid r3'
  have B3 := Lib.hid b3'
  clear hb3 r2 b2 r3' b3'
  go_wp2
  have r5 := (((R3.out.set 0 (.string ⟨#[]⟩)).set 1 (.string ⟨#[]⟩)).set 2 (.string ⟨#[]⟩)).alloc (.cells #[.string X, .string Y, .string R] 24)
  have p0 := r5.cell 0 (.string ⟨#[]⟩) rfl
  have p1 := r5.cell 1 (.string ⟨#[]⟩) rfl
  have p2 := r5.cell 2 (.string ⟨#[]⟩) rfl
  refine bodyPost_ret (v := bad) (by simp [results, Tryd.results10, go_sem, bad, p0, p1, p2]) rfl ⟨rfl, ?_⟩
  repeat (first | exact B3.out | (refine Below.setCell ?_ (by simp) _) | (refine Below.alloc ?_ (by have := B3.out.size; first | exact this | (simp; omega)) _))

set_option maxHeartbeats 2000000 in
theorem Parse_tBE (s B R N D X Y : ByteArray) (has : Bool) (w : World) (H1 : CutSays 47 s B R has) (H2 : CutSays 64 B N D true)
    (H3 : NormSays N D R X Y) (h0 : has = false) (h2 : N.size = 0) :
    Calls Tryd.prog 10 #[.string s] w fun e w' => e = .returned (bad) ∧ Below w.heap.size w w' := by
  subst h0
  have e2 := U.toList_nil N h2
  clear h2
  go_enter Tryd.func10, Tryd.ntmps10
  go_wp2_with fail
  refine (H1.out _).mono ?_
  rintro e w1 ⟨rfl, hb1⟩
  have r1 := (U.At.new w 24 #[.string ⟨#[]⟩, .string ⟨#[]⟩, .string ⟨#[]⟩]).below hb1
  have b1 := ((Below.refl _ w).alloc (Nat.le_refl _) (.cells #[.string ⟨#[]⟩, .string ⟨#[]⟩, .string ⟨#[]⟩] 24)).trans (hb1.mono (by simp))
  clear hb1
  go_wp2_with fail
  refine (H2.out _).mono ?_
  rintro e w2 ⟨rfl, hb2⟩
  have r2 := r1.below hb2
  have b2 := b1.trans (hb2.mono b1.size)
  clear hb2 r1 b1
  go_wp2_with fail
  refine (H3.out _).mono ?_
  rintro e w3 ⟨rfl, hb3⟩
  have r3' := r2.below hb3
  have b3' := b2.trans (hb3.mono b2.size)
  have d0 := r3'.cell 0 _ rfl
  have d1 := r3'.cell 1 _ rfl
  have d2 := r3'.cell 2 _ rfl
  have g0 := r3'.free 0
  have g1 := r3'.free 1
  have g2 := r3'.free 2
  have hne := r3'.lt
  have R3 := Lib.hid r3'
  have B3 := Lib.hid b3'
  clear hb3 r2 b2 r3' b3'
  go_wp2
  have r5 := (((R3.out.set 0 (.string ⟨#[]⟩)).set 1 (.string ⟨#[]⟩)).set 2 (.string ⟨#[]⟩)).alloc (.cells #[.string X, .string Y, .string R] 24)
  have p0 := r5.cell 0 (.string ⟨#[]⟩) rfl
  have p1 := r5.cell 1 (.string ⟨#[]⟩) rfl
  have p2 := r5.cell 2 (.string ⟨#[]⟩) rfl
  refine bodyPost_ret (v := bad) (by simp [results, Tryd.results10, go_sem, bad, p0, p1, p2]) rfl ⟨rfl, ?_⟩
  repeat (first | exact B3.out | (refine Below.setCell ?_ (by simp) _) | (refine Below.alloc ?_ (by have := B3.out.size; first | exact this | (simp; omega)) _))

set_option maxHeartbeats 2000000 in
theorem Parse_tBF30 (s B R N D X Y : ByteArray) (has : Bool) (w : World) (H1 : CutSays 47 s B R has) (H2 : CutSays 64 B N D true)
    (H3 : NormSays N D R X Y) (h0 : has = false) (h2 : 0 < N.size) (H4 : CheckSays X Y R 30) :
    Calls Tryd.prog 10 #[.string s] w fun e w' => e = .returned (bad) ∧ Below w.heap.size w w' := by
  subst h0
  have e2 := U.isEmpty_false N h2
  clear h2
  go_enter Tryd.func10, Tryd.ntmps10
  go_wp2_with fail
  refine (H1.out _).mono ?_
  rintro e w1 ⟨rfl, hb1⟩
  have r1 := (U.At.new w 24 #[.string ⟨#[]⟩, .string ⟨#[]⟩, .string ⟨#[]⟩]).below hb1
  have b1 := ((Below.refl _ w).alloc (Nat.le_refl _) (.cells #[.string ⟨#[]⟩, .string ⟨#[]⟩, .string ⟨#[]⟩] 24)).trans (hb1.mono (by simp))
  clear hb1
  go_wp2_with fail
  refine (H2.out _).mono ?_
  rintro e w2 ⟨rfl, hb2⟩
  have r2 := r1.below hb2
  have b2 := b1.trans (hb2.mono b1.size)
  clear hb2 r1 b1
  go_wp2_with fail
  refine (H3.out _).mono ?_
  rintro e w3 ⟨rfl, hb3⟩
  have r3' := r2.below hb3
  have b3' := b2.trans (hb3.mono b2.size)
  have d0 := r3'.cell 0 _ rfl
  have d1 := r3'.cell 1 _ rfl
  have d2 := r3'.cell 2 _ rfl
  have g0 := r3'.free 0
  have g1 := r3'.free 1
  have g2 := r3'.free 2
  have hne := r3'.lt
  have R3 := Lib.hid r3'
  have B3 := Lib.hid b3'
  clear hb3 r2 b2 r3' b3'
  go_wp2_with fail
  refine (H4.out _).mono ?_
  rintro e w4 ⟨rfl, hb4⟩
  have r4 := (R3.out.alloc (.cells #[.string X, .string Y, .string R] 24)).below hb4
  have q4 := (U.At.new w3 24 #[.string X, .string Y, .string R]).below hb4
  have b4 := (B3.out.alloc B3.out.size (.cells #[.string X, .string Y, .string R] 24)).trans (hb4.mono (by have := B3.out.size; simp; omega))
  clear hb4 d0 d1 d2 g0 g1 g2
  have d0 := r4.cell 0 _ rfl
  have d1 := r4.cell 1 _ rfl
  have d2 := r4.cell 2 _ rfl
  have g0 := r4.free 0
  have g1 := r4.free 1
  have g2 := r4.free 2
  have k0 := q4.cell 0 _ rfl
  have k1 := q4.cell 1 _ rfl
  have k2 := q4.cell 2 _ rfl
  clear r4 q4
  go_wp2
  refine bodyPost_ret (v := bad) (by simp [results, Tryd.results10, go_sem, bad, d0, d1, d2]) rfl ⟨rfl, ?_⟩
  repeat (first | exact b4 | (refine Below.setCell ?_ (by simp) _) | (refine Below.alloc ?_ (by have := B3.out.size; first | exact this | (simp; omega)) _))

set_option maxHeartbeats 2000000 in
theorem Parse_tBF0 (s B R N D X Y : ByteArray) (has : Bool) (w : World) (H1 : CutSays 47 s B R has) (H2 : CutSays 64 B N D true)
    (H3 : NormSays N D R X Y) (h0 : has = false) (h2 : 0 < N.size) (H4 : CheckSays X Y R 0) :
    Calls Tryd.prog 10 #[.string s] w fun e w' => e = .returned (.tuple #[.agg #[.string X, .string Y, .string R], .int .i64 0]) ∧ Below w.heap.size w w' := by
  subst h0
  have e2 := U.isEmpty_false N h2
  clear h2
  go_enter Tryd.func10, Tryd.ntmps10
  go_wp2_with fail
  refine (H1.out _).mono ?_
  rintro e w1 ⟨rfl, hb1⟩
  have r1 := (U.At.new w 24 #[.string ⟨#[]⟩, .string ⟨#[]⟩, .string ⟨#[]⟩]).below hb1
  have b1 := ((Below.refl _ w).alloc (Nat.le_refl _) (.cells #[.string ⟨#[]⟩, .string ⟨#[]⟩, .string ⟨#[]⟩] 24)).trans (hb1.mono (by simp))
  clear hb1
  go_wp2_with fail
  refine (H2.out _).mono ?_
  rintro e w2 ⟨rfl, hb2⟩
  have r2 := r1.below hb2
  have b2 := b1.trans (hb2.mono b1.size)
  clear hb2 r1 b1
  go_wp2_with fail
  refine (H3.out _).mono ?_
  rintro e w3 ⟨rfl, hb3⟩
  have r3' := r2.below hb3
  have b3' := b2.trans (hb3.mono b2.size)
  have d0 := r3'.cell 0 _ rfl
  have d1 := r3'.cell 1 _ rfl
  have d2 := r3'.cell 2 _ rfl
  have g0 := r3'.free 0
  have g1 := r3'.free 1
  have g2 := r3'.free 2
  have hne := r3'.lt
  have R3 := Lib.hid r3'
  have B3 := Lib.hid b3'
  clear hb3 r2 b2 r3' b3'
  go_wp2_with fail
  refine (H4.out _).mono ?_
  rintro e w4 ⟨rfl, hb4⟩
  have r4 := (R3.out.alloc (.cells #[.string X, .string Y, .string R] 24)).below hb4
  have q4 := (U.At.new w3 24 #[.string X, .string Y, .string R]).below hb4
  have b4 := (B3.out.alloc B3.out.size (.cells #[.string X, .string Y, .string R] 24)).trans (hb4.mono (by have := B3.out.size; simp; omega))
  clear hb4 d0 d1 d2 g0 g1 g2
  have d0 := r4.cell 0 _ rfl
  have d1 := r4.cell 1 _ rfl
  have d2 := r4.cell 2 _ rfl
  have g0 := r4.free 0
  have g1 := r4.free 1
  have g2 := r4.free 2
  have k0 := q4.cell 0 _ rfl
  have k1 := q4.cell 1 _ rfl
  have k2 := q4.cell 2 _ rfl
  clear r4 q4
  go_wp2
  refine bodyPost_ret (v := .tuple #[.agg #[.string X, .string Y, .string R], .int .i64 0]) (by simp [results, Tryd.results10, go_sem, bad, d0, d1, d2]) rfl ⟨rfl, ?_⟩
  repeat (first | exact b4 | (refine Below.setCell ?_ (by simp) _) | (refine Below.alloc ?_ (by have := B3.out.size; first | exact this | (simp; omega)) _))

set_option maxHeartbeats 2000000 in
theorem Parse_tCE (s B R N D X Y : ByteArray) (has : Bool) (w : World) (H1 : CutSays 47 s B R has) (H2 : CutSays 64 B N D true)
    (H3 : NormSays N D R X Y) (h0 : has = true) (h1 : 0 < R.size) (h2 : N.size = 0) :
    Calls Tryd.prog 10 #[.string s] w fun e w' => e = .returned (bad) ∧ Below w.heap.size w w' := by
  subst h0
  have e1 := U.isEmpty_false R h1
  clear h1
  have e2 := U.toList_nil N h2
  clear h2
  go_enter Tryd.func10, Tryd.ntmps10
  go_wp2_with fail
  refine (H1.out _).mono ?_
  rintro e w1 ⟨rfl, hb1⟩
  have r1 := (U.At.new w 24 #[.string ⟨#[]⟩, .string ⟨#[]⟩, .string ⟨#[]⟩]).below hb1
  have b1 := ((Below.refl _ w).alloc (Nat.le_refl _) (.cells #[.string ⟨#[]⟩, .string ⟨#[]⟩, .string ⟨#[]⟩] 24)).trans (hb1.mono (by simp))
  clear hb1
  go_wp2_with fail
  refine (H2.out _).mono ?_
  rintro e w2 ⟨rfl, hb2⟩
  have r2 := r1.below hb2
  have b2 := b1.trans (hb2.mono b1.size)
  clear hb2 r1 b1
  go_wp2_with fail
  refine (H3.out _).mono ?_
  rintro e w3 ⟨rfl, hb3⟩
  have r3' := r2.below hb3
  have b3' := b2.trans (hb3.mono b2.size)
  have d0 := r3'.cell 0 _ rfl
  have d1 := r3'.cell 1 _ rfl
  have d2 := r3'.cell 2 _ rfl
  have g0 := r3'.free 0
  have g1 := r3'.free 1
  have g2 := r3'.free 2
  have hne := r3'.lt
  have R3 := Lib.hid r3'
  have B3 := Lib.hid b3'
  clear hb3 r2 b2 r3' b3'
  go_wp2
  have r5 := (((R3.out.set 0 (.string ⟨#[]⟩)).set 1 (.string ⟨#[]⟩)).set 2 (.string ⟨#[]⟩)).alloc (.cells #[.string X, .string Y, .string R] 24)
  have p0 := r5.cell 0 (.string ⟨#[]⟩) rfl
  have p1 := r5.cell 1 (.string ⟨#[]⟩) rfl
  have p2 := r5.cell 2 (.string ⟨#[]⟩) rfl
  refine bodyPost_ret (v := bad) (by simp [results, Tryd.results10, go_sem, bad, p0, p1, p2]) rfl ⟨rfl, ?_⟩
  repeat (first | exact B3.out | (refine Below.setCell ?_ (by simp) _) | (refine Below.alloc ?_ (by have := B3.out.size; first | exact this | (simp; omega)) _))

set_option maxHeartbeats 2000000 in
theorem Parse_tCF30 (s B R N D X Y : ByteArray) (has : Bool) (w : World) (H1 : CutSays 47 s B R has) (H2 : CutSays 64 B N D true)
    (H3 : NormSays N D R X Y) (h0 : has = true) (h1 : 0 < R.size) (h2 : 0 < N.size) (H4 : CheckSays X Y R 30) :
    Calls Tryd.prog 10 #[.string s] w fun e w' => e = .returned (bad) ∧ Below w.heap.size w w' := by
  subst h0
  have e1 := U.isEmpty_false R h1
  clear h1
  have e2 := U.isEmpty_false N h2
  clear h2
  go_enter Tryd.func10, Tryd.ntmps10
  go_wp2_with fail
  refine (H1.out _).mono ?_
  rintro e w1 ⟨rfl, hb1⟩
  have r1 := (U.At.new w 24 #[.string ⟨#[]⟩, .string ⟨#[]⟩, .string ⟨#[]⟩]).below hb1
  have b1 := ((Below.refl _ w).alloc (Nat.le_refl _) (.cells #[.string ⟨#[]⟩, .string ⟨#[]⟩, .string ⟨#[]⟩] 24)).trans (hb1.mono (by simp))
  clear hb1
  go_wp2_with fail
  refine (H2.out _).mono ?_
  rintro e w2 ⟨rfl, hb2⟩
  have r2 := r1.below hb2
  have b2 := b1.trans (hb2.mono b1.size)
  clear hb2 r1 b1
  go_wp2_with fail
  refine (H3.out _).mono ?_
  rintro e w3 ⟨rfl, hb3⟩
  have r3' := r2.below hb3
  have b3' := b2.trans (hb3.mono b2.size)
  have d0 := r3'.cell 0 _ rfl
  have d1 := r3'.cell 1 _ rfl
  have d2 := r3'.cell 2 _ rfl
  have g0 := r3'.free 0
  have g1 := r3'.free 1
  have g2 := r3'.free 2
  have hne := r3'.lt
  have R3 := Lib.hid r3'
  have B3 := Lib.hid b3'
  clear hb3 r2 b2 r3' b3'
  go_wp2_with fail
  refine (H4.out _).mono ?_
  rintro e w4 ⟨rfl, hb4⟩
  have r4 := (R3.out.alloc (.cells #[.string X, .string Y, .string R] 24)).below hb4
  have q4 := (U.At.new w3 24 #[.string X, .string Y, .string R]).below hb4
  have b4 := (B3.out.alloc B3.out.size (.cells #[.string X, .string Y, .string R] 24)).trans (hb4.mono (by have := B3.out.size; simp; omega))
  clear hb4 d0 d1 d2 g0 g1 g2
  have d0 := r4.cell 0 _ rfl
  have d1 := r4.cell 1 _ rfl
  have d2 := r4.cell 2 _ rfl
  have g0 := r4.free 0
  have g1 := r4.free 1
  have g2 := r4.free 2
  have k0 := q4.cell 0 _ rfl
  have k1 := q4.cell 1 _ rfl
  have k2 := q4.cell 2 _ rfl
  clear r4 q4
  go_wp2
  refine bodyPost_ret (v := bad) (by simp [results, Tryd.results10, go_sem, bad, d0, d1, d2]) rfl ⟨rfl, ?_⟩
  repeat (first | exact b4 | (refine Below.setCell ?_ (by simp) _) | (refine Below.alloc ?_ (by have := B3.out.size; first | exact this | (simp; omega)) _))

set_option maxHeartbeats 2000000 in
theorem Parse_tCF0 (s B R N D X Y : ByteArray) (has : Bool) (w : World) (H1 : CutSays 47 s B R has) (H2 : CutSays 64 B N D true)
    (H3 : NormSays N D R X Y) (h0 : has = true) (h1 : 0 < R.size) (h2 : 0 < N.size) (H4 : CheckSays X Y R 0) :
    Calls Tryd.prog 10 #[.string s] w fun e w' => e = .returned (.tuple #[.agg #[.string X, .string Y, .string R], .int .i64 0]) ∧ Below w.heap.size w w' := by
  subst h0
  have e1 := U.isEmpty_false R h1
  clear h1
  have e2 := U.isEmpty_false N h2
  clear h2
  go_enter Tryd.func10, Tryd.ntmps10
  go_wp2_with fail
  refine (H1.out _).mono ?_
  rintro e w1 ⟨rfl, hb1⟩
  have r1 := (U.At.new w 24 #[.string ⟨#[]⟩, .string ⟨#[]⟩, .string ⟨#[]⟩]).below hb1
  have b1 := ((Below.refl _ w).alloc (Nat.le_refl _) (.cells #[.string ⟨#[]⟩, .string ⟨#[]⟩, .string ⟨#[]⟩] 24)).trans (hb1.mono (by simp))
  clear hb1
  go_wp2_with fail
  refine (H2.out _).mono ?_
  rintro e w2 ⟨rfl, hb2⟩
  have r2 := r1.below hb2
  have b2 := b1.trans (hb2.mono b1.size)
  clear hb2 r1 b1
  go_wp2_with fail
  refine (H3.out _).mono ?_
  rintro e w3 ⟨rfl, hb3⟩
  have r3' := r2.below hb3
  have b3' := b2.trans (hb3.mono b2.size)
  have d0 := r3'.cell 0 _ rfl
  have d1 := r3'.cell 1 _ rfl
  have d2 := r3'.cell 2 _ rfl
  have g0 := r3'.free 0
  have g1 := r3'.free 1
  have g2 := r3'.free 2
  have hne := r3'.lt
  have R3 := Lib.hid r3'
  have B3 := Lib.hid b3'
  clear hb3 r2 b2 r3' b3'
  go_wp2_with fail
  refine (H4.out _).mono ?_
  rintro e w4 ⟨rfl, hb4⟩
  have r4 := (R3.out.alloc (.cells #[.string X, .string Y, .string R] 24)).below hb4
  have q4 := (U.At.new w3 24 #[.string X, .string Y, .string R]).below hb4
  have b4 := (B3.out.alloc B3.out.size (.cells #[.string X, .string Y, .string R] 24)).trans (hb4.mono (by have := B3.out.size; simp; omega))
  clear hb4 d0 d1 d2 g0 g1 g2
  have d0 := r4.cell 0 _ rfl
  have d1 := r4.cell 1 _ rfl
  have d2 := r4.cell 2 _ rfl
  have g0 := r4.free 0
  have g1 := r4.free 1
  have g2 := r4.free 2
  have k0 := q4.cell 0 _ rfl
  have k1 := q4.cell 1 _ rfl
  have k2 := q4.cell 2 _ rfl
  clear r4 q4
  go_wp2
  refine bodyPost_ret (v := .tuple #[.agg #[.string X, .string Y, .string R], .int .i64 0]) (by simp [results, Tryd.results10, go_sem, bad, d0, d1, d2]) rfl ⟨rfl, ?_⟩
  repeat (first | exact b4 | (refine Below.setCell ?_ (by simp) _) | (refine Below.alloc ?_ (by have := B3.out.size; first | exact this | (simp; omega)) _))

set_option maxHeartbeats 2000000 in
theorem Parse_fA (s B R N D X Y : ByteArray) (has : Bool) (w : World) (H1 : CutSays 47 s B R has) (H2 : CutSays 64 B N D false)
    (H3 : NormSays ⟨#[]⟩ B R X Y) (h0 : has = true) (h1 : R.size = 0) :
    Calls Tryd.prog 10 #[.string s] w fun e w' => e = .returned (bad) ∧ Below w.heap.size w w' := by
  subst h0
  have e1 := U.toList_nil R h1
  clear h1
  go_enter Tryd.func10, Tryd.ntmps10
  go_wp2_with fail
  refine (H1.out _).mono ?_
  rintro e w1 ⟨rfl, hb1⟩
  have r1 := (U.At.new w 24 #[.string ⟨#[]⟩, .string ⟨#[]⟩, .string ⟨#[]⟩]).below hb1
  have b1 := ((Below.refl _ w).alloc (Nat.le_refl _) (.cells #[.string ⟨#[]⟩, .string ⟨#[]⟩, .string ⟨#[]⟩] 24)).trans (hb1.mono (by simp))
  clear hb1
  go_wp2_with fail
  refine (H2.out _).mono ?_
  rintro e w2 ⟨rfl, hb2⟩
  have r2 := r1.below hb2
  have b2 := b1.trans (hb2.mono b1.size)
  clear hb2 r1 b1
  go_wp2_with fail
  refine (H3.out _).mono ?_
  rintro e w3 ⟨rfl, hb3⟩
  have r3' := r2.below hb3
  have b3' := b2.trans (hb3.mono b2.size)
  have d0 := r3'.cell 0 _ rfl
  have d1 := r3'.cell 1 _ rfl
  have d2 := r3'.cell 2 _ rfl
  have g0 := r3'.free 0
  have g1 := r3'.free 1
  have g2 := r3'.free 2
  have hne := r3'.lt
  have R3 := Lib.hid r3'
  have B3 := Lib.hid b3'
  clear hb3 r2 b2 r3' b3'
  go_wp2
  have r5 := (((R3.out.set 0 (.string ⟨#[]⟩)).set 1 (.string ⟨#[]⟩)).set 2 (.string ⟨#[]⟩)).alloc (.cells #[.string X, .string Y, .string R] 24)
  have p0 := r5.cell 0 (.string ⟨#[]⟩) rfl
  have p1 := r5.cell 1 (.string ⟨#[]⟩) rfl
  have p2 := r5.cell 2 (.string ⟨#[]⟩) rfl
  refine bodyPost_ret (v := bad) (by simp [results, Tryd.results10, go_sem, bad, p0, p1, p2]) rfl ⟨rfl, ?_⟩
  repeat (first | exact B3.out | (refine Below.setCell ?_ (by simp) _) | (refine Below.alloc ?_ (by have := B3.out.size; first | exact this | (simp; omega)) _))

set_option maxHeartbeats 2000000 in
theorem Parse_fB30 (s B R N D X Y : ByteArray) (has : Bool) (w : World) (H1 : CutSays 47 s B R has) (H2 : CutSays 64 B N D false)
    (H3 : NormSays ⟨#[]⟩ B R X Y) (h0 : has = false)  (H4 : CheckSays X Y R 30) :
    Calls Tryd.prog 10 #[.string s] w fun e w' => e = .returned (bad) ∧ Below w.heap.size w w' := by
  subst h0
  go_enter Tryd.func10, Tryd.ntmps10
  go_wp2_with fail
  refine (H1.out _).mono ?_
  rintro e w1 ⟨rfl, hb1⟩
  have r1 := (U.At.new w 24 #[.string ⟨#[]⟩, .string ⟨#[]⟩, .string ⟨#[]⟩]).below hb1
  have b1 := ((Below.refl _ w).alloc (Nat.le_refl _) (.cells #[.string ⟨#[]⟩, .string ⟨#[]⟩, .string ⟨#[]⟩] 24)).trans (hb1.mono (by simp))
  clear hb1
  go_wp2_with fail
  refine (H2.out _).mono ?_
  rintro e w2 ⟨rfl, hb2⟩
  have r2 := r1.below hb2
  have b2 := b1.trans (hb2.mono b1.size)
  clear hb2 r1 b1
  go_wp2_with fail
  refine (H3.out _).mono ?_
  rintro e w3 ⟨rfl, hb3⟩
  have r3' := r2.below hb3
  have b3' := b2.trans (hb3.mono b2.size)
  have d0 := r3'.cell 0 _ rfl
  have d1 := r3'.cell 1 _ rfl
  have d2 := r3'.cell 2 _ rfl
  have g0 := r3'.free 0
  have g1 := r3'.free 1
  have g2 := r3'.free 2
  have hne := r3'.lt
  have R3 := Lib.hid r3'
  have B3 := Lib.hid b3'
  clear hb3 r2 b2 r3' b3'
  go_wp2_with fail
  refine (H4.out _).mono ?_
  rintro e w4 ⟨rfl, hb4⟩
  have r4 := (R3.out.alloc (.cells #[.string X, .string Y, .string R] 24)).below hb4
  have q4 := (U.At.new w3 24 #[.string X, .string Y, .string R]).below hb4
  have b4 := (B3.out.alloc B3.out.size (.cells #[.string X, .string Y, .string R] 24)).trans (hb4.mono (by have := B3.out.size; simp; omega))
  clear hb4 d0 d1 d2 g0 g1 g2
  have d0 := r4.cell 0 _ rfl
  have d1 := r4.cell 1 _ rfl
  have d2 := r4.cell 2 _ rfl
  have g0 := r4.free 0
  have g1 := r4.free 1
  have g2 := r4.free 2
  have k0 := q4.cell 0 _ rfl
  have k1 := q4.cell 1 _ rfl
  have k2 := q4.cell 2 _ rfl
  clear r4 q4
  go_wp2
  refine bodyPost_ret (v := bad) (by simp [results, Tryd.results10, go_sem, bad, d0, d1, d2]) rfl ⟨rfl, ?_⟩
  repeat (first | exact b4 | (refine Below.setCell ?_ (by simp) _) | (refine Below.alloc ?_ (by have := B3.out.size; first | exact this | (simp; omega)) _))

set_option maxHeartbeats 2000000 in
theorem Parse_fB0 (s B R N D X Y : ByteArray) (has : Bool) (w : World) (H1 : CutSays 47 s B R has) (H2 : CutSays 64 B N D false)
    (H3 : NormSays ⟨#[]⟩ B R X Y) (h0 : has = false)  (H4 : CheckSays X Y R 0) :
    Calls Tryd.prog 10 #[.string s] w fun e w' => e = .returned (.tuple #[.agg #[.string X, .string Y, .string R], .int .i64 0]) ∧ Below w.heap.size w w' := by
  subst h0
  go_enter Tryd.func10, Tryd.ntmps10
  go_wp2_with fail
  refine (H1.out _).mono ?_
  rintro e w1 ⟨rfl, hb1⟩
  have r1 := (U.At.new w 24 #[.string ⟨#[]⟩, .string ⟨#[]⟩, .string ⟨#[]⟩]).below hb1
  have b1 := ((Below.refl _ w).alloc (Nat.le_refl _) (.cells #[.string ⟨#[]⟩, .string ⟨#[]⟩, .string ⟨#[]⟩] 24)).trans (hb1.mono (by simp))
  clear hb1
  go_wp2_with fail
  refine (H2.out _).mono ?_
  rintro e w2 ⟨rfl, hb2⟩
  have r2 := r1.below hb2
  have b2 := b1.trans (hb2.mono b1.size)
  clear hb2 r1 b1
  go_wp2_with fail
  refine (H3.out _).mono ?_
  rintro e w3 ⟨rfl, hb3⟩
  have r3' := r2.below hb3
  have b3' := b2.trans (hb3.mono b2.size)
  have d0 := r3'.cell 0 _ rfl
  have d1 := r3'.cell 1 _ rfl
  have d2 := r3'.cell 2 _ rfl
  have g0 := r3'.free 0
  have g1 := r3'.free 1
  have g2 := r3'.free 2
  have hne := r3'.lt
  have R3 := Lib.hid r3'
  have B3 := Lib.hid b3'
  clear hb3 r2 b2 r3' b3'
  go_wp2_with fail
  refine (H4.out _).mono ?_
  rintro e w4 ⟨rfl, hb4⟩
  have r4 := (R3.out.alloc (.cells #[.string X, .string Y, .string R] 24)).below hb4
  have q4 := (U.At.new w3 24 #[.string X, .string Y, .string R]).below hb4
  have b4 := (B3.out.alloc B3.out.size (.cells #[.string X, .string Y, .string R] 24)).trans (hb4.mono (by have := B3.out.size; simp; omega))
  clear hb4 d0 d1 d2 g0 g1 g2
  have d0 := r4.cell 0 _ rfl
  have d1 := r4.cell 1 _ rfl
  have d2 := r4.cell 2 _ rfl
  have g0 := r4.free 0
  have g1 := r4.free 1
  have g2 := r4.free 2
  have k0 := q4.cell 0 _ rfl
  have k1 := q4.cell 1 _ rfl
  have k2 := q4.cell 2 _ rfl
  clear r4 q4
  go_wp2
  refine bodyPost_ret (v := .tuple #[.agg #[.string X, .string Y, .string R], .int .i64 0]) (by simp [results, Tryd.results10, go_sem, bad, d0, d1, d2]) rfl ⟨rfl, ?_⟩
  repeat (first | exact b4 | (refine Below.setCell ?_ (by simp) _) | (refine Below.alloc ?_ (by have := B3.out.size; first | exact this | (simp; omega)) _))

set_option maxHeartbeats 2000000 in
theorem Parse_fC30 (s B R N D X Y : ByteArray) (has : Bool) (w : World) (H1 : CutSays 47 s B R has) (H2 : CutSays 64 B N D false)
    (H3 : NormSays ⟨#[]⟩ B R X Y) (h0 : has = true) (h1 : 0 < R.size)  (H4 : CheckSays X Y R 30) :
    Calls Tryd.prog 10 #[.string s] w fun e w' => e = .returned (bad) ∧ Below w.heap.size w w' := by
  subst h0
  have e1 := U.isEmpty_false R h1
  clear h1
  go_enter Tryd.func10, Tryd.ntmps10
  go_wp2_with fail
  refine (H1.out _).mono ?_
  rintro e w1 ⟨rfl, hb1⟩
  have r1 := (U.At.new w 24 #[.string ⟨#[]⟩, .string ⟨#[]⟩, .string ⟨#[]⟩]).below hb1
  have b1 := ((Below.refl _ w).alloc (Nat.le_refl _) (.cells #[.string ⟨#[]⟩, .string ⟨#[]⟩, .string ⟨#[]⟩] 24)).trans (hb1.mono (by simp))
  clear hb1
  go_wp2_with fail
  refine (H2.out _).mono ?_
  rintro e w2 ⟨rfl, hb2⟩
  have r2 := r1.below hb2
  have b2 := b1.trans (hb2.mono b1.size)
  clear hb2 r1 b1
  go_wp2_with fail
  refine (H3.out _).mono ?_
  rintro e w3 ⟨rfl, hb3⟩
  have r3' := r2.below hb3
  have b3' := b2.trans (hb3.mono b2.size)
  have d0 := r3'.cell 0 _ rfl
  have d1 := r3'.cell 1 _ rfl
  have d2 := r3'.cell 2 _ rfl
  have g0 := r3'.free 0
  have g1 := r3'.free 1
  have g2 := r3'.free 2
  have hne := r3'.lt
  have R3 := Lib.hid r3'
  have B3 := Lib.hid b3'
  clear hb3 r2 b2 r3' b3'
  go_wp2_with fail
  refine (H4.out _).mono ?_
  rintro e w4 ⟨rfl, hb4⟩
  have r4 := (R3.out.alloc (.cells #[.string X, .string Y, .string R] 24)).below hb4
  have q4 := (U.At.new w3 24 #[.string X, .string Y, .string R]).below hb4
  have b4 := (B3.out.alloc B3.out.size (.cells #[.string X, .string Y, .string R] 24)).trans (hb4.mono (by have := B3.out.size; simp; omega))
  clear hb4 d0 d1 d2 g0 g1 g2
  have d0 := r4.cell 0 _ rfl
  have d1 := r4.cell 1 _ rfl
  have d2 := r4.cell 2 _ rfl
  have g0 := r4.free 0
  have g1 := r4.free 1
  have g2 := r4.free 2
  have k0 := q4.cell 0 _ rfl
  have k1 := q4.cell 1 _ rfl
  have k2 := q4.cell 2 _ rfl
  clear r4 q4
  go_wp2
  refine bodyPost_ret (v := bad) (by simp [results, Tryd.results10, go_sem, bad, d0, d1, d2]) rfl ⟨rfl, ?_⟩
  repeat (first | exact b4 | (refine Below.setCell ?_ (by simp) _) | (refine Below.alloc ?_ (by have := B3.out.size; first | exact this | (simp; omega)) _))

set_option maxHeartbeats 2000000 in
theorem Parse_fC0 (s B R N D X Y : ByteArray) (has : Bool) (w : World) (H1 : CutSays 47 s B R has) (H2 : CutSays 64 B N D false)
    (H3 : NormSays ⟨#[]⟩ B R X Y) (h0 : has = true) (h1 : 0 < R.size)  (H4 : CheckSays X Y R 0) :
    Calls Tryd.prog 10 #[.string s] w fun e w' => e = .returned (.tuple #[.agg #[.string X, .string Y, .string R], .int .i64 0]) ∧ Below w.heap.size w w' := by
  subst h0
  have e1 := U.isEmpty_false R h1
  clear h1
  go_enter Tryd.func10, Tryd.ntmps10
  go_wp2_with fail
  refine (H1.out _).mono ?_
  rintro e w1 ⟨rfl, hb1⟩
  have r1 := (U.At.new w 24 #[.string ⟨#[]⟩, .string ⟨#[]⟩, .string ⟨#[]⟩]).below hb1
  have b1 := ((Below.refl _ w).alloc (Nat.le_refl _) (.cells #[.string ⟨#[]⟩, .string ⟨#[]⟩, .string ⟨#[]⟩] 24)).trans (hb1.mono (by simp))
  clear hb1
  go_wp2_with fail
  refine (H2.out _).mono ?_
  rintro e w2 ⟨rfl, hb2⟩
  have r2 := r1.below hb2
  have b2 := b1.trans (hb2.mono b1.size)
  clear hb2 r1 b1
  go_wp2_with fail
  refine (H3.out _).mono ?_
  rintro e w3 ⟨rfl, hb3⟩
  have r3' := r2.below hb3
  have b3' := b2.trans (hb3.mono b2.size)
  have d0 := r3'.cell 0 _ rfl
  have d1 := r3'.cell 1 _ rfl
  have d2 := r3'.cell 2 _ rfl
  have g0 := r3'.free 0
  have g1 := r3'.free 1
  have g2 := r3'.free 2
  have hne := r3'.lt
  have R3 := Lib.hid r3'
  have B3 := Lib.hid b3'
  clear hb3 r2 b2 r3' b3'
  go_wp2_with fail
  refine (H4.out _).mono ?_
  rintro e w4 ⟨rfl, hb4⟩
  have r4 := (R3.out.alloc (.cells #[.string X, .string Y, .string R] 24)).below hb4
  have q4 := (U.At.new w3 24 #[.string X, .string Y, .string R]).below hb4
  have b4 := (B3.out.alloc B3.out.size (.cells #[.string X, .string Y, .string R] 24)).trans (hb4.mono (by have := B3.out.size; simp; omega))
  clear hb4 d0 d1 d2 g0 g1 g2
  have d0 := r4.cell 0 _ rfl
  have d1 := r4.cell 1 _ rfl
  have d2 := r4.cell 2 _ rfl
  have g0 := r4.free 0
  have g1 := r4.free 1
  have g2 := r4.free 2
  have k0 := q4.cell 0 _ rfl
  have k1 := q4.cell 1 _ rfl
  have k2 := q4.cell 2 _ rfl
  clear r4 q4
  go_wp2
  refine bodyPost_ret (v := .tuple #[.agg #[.string X, .string Y, .string R], .int .i64 0]) (by simp [results, Tryd.results10, go_sem, bad, d0, d1, d2]) rfl ⟨rfl, ?_⟩
  repeat (first | exact b4 | (refine Below.setCell ?_ (by simp) _) | (refine Below.alloc ?_ (by have := B3.out.size; first | exact this | (simp; omega)) _))
end Go.Proofs.YthifpbaebbodoaaDoor.Jid
