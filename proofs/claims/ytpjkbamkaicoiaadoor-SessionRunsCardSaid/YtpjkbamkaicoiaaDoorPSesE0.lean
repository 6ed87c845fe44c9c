/- Contracts of functions of this translation, and what they come to; what is not used is left out. -/
import Derived.Test.YtpjkbamkaicoiaaDoorPg1
import Derived.Test.YtpjkbamkaicoiaaDoorPg5
import Derived.Test.YtpjkbamkaicoiaaDoorPCls
import Derived.Test.YtpjkbamkaicoiaaDoorPUtil
import Derived.Test.YtpjkbamkaicoiaaDoorPSoft
import Derived.Test.YtpjkbamkaicoiaaDoorPHanS
import Derived.Test.YtpjkbamkaicoiaaDoorPHanR
import Derived.Test.YtpjkbamkaicoiaaDoorPHanQ
import Derived.Test.YtpjkbamkaicoiaaDoorPRaQ
import Derived.Test.YtpjkbamkaicoiaaDoorPRefJ
import Derived.Test.YtpjkbamkaicoiaaDoorPRefF
import Derived.Test.YtpjkbamkaicoiaaDoorPGlyA
import Derived.Test.YtpjkbamkaicoiaaDoorPGlyP
import Derived.Test.YtpjkbamkaicoiaaDoorPJidP
import Derived.Test.YtpjkbamkaicoiaaDoorPStrs
import Derived.Test.YtpjkbamkaicoiaaDoorPShelf
import Derived.Test.YtpjkbamkaicoiaaDoorPRaP
import Derived.Test.YtpjkbamkaicoiaaDoorPRa2
import Derived.Test.YtpjkbamkaicoiaaDoorPRa1
import Derived.Test.YtpjkbamkaicoiaaDoorPRa0
import Derived.Test.YtpjkbamkaicoiaaDoorPg0
import Derived.Test.YtpjkbamkaicoiaaDoorPHanP
import Derived.Test.YtpjkbamkaicoiaaDoorPEscB
import Derived.Test.YtpjkbamkaicoiaaDoorPEscA
import Derived.Test.YtpjkbamkaicoiaaDoorPEscP
import Derived.Test.YtpjkbamkaicoiaaDoorPBld
import Derived.Test.YtpjkbamkaicoiaaDoorPHanA
import Derived.Test.YtpjkbamkaicoiaaDoorPRep
import Derived.Test.YtpjkbamkaicoiaaDoorPRc3
import Derived.Test.YtpjkbamkaicoiaaDoorPRc2
import Derived.Test.YtpjkbamkaicoiaaDoorPRc1
import Derived.Test.YtpjkbamkaicoiaaDoorPRc0
import Derived.Test.YtpjkbamkaicoiaaDoorPHanF
import Derived.Test.YtpjkbamkaicoiaaDoorPg4
import Derived.Test.YtpjkbamkaicoiaaDoorPg6
import Derived.Test.YtpjkbamkaicoiaaDoorPBox

section
/- Session: digests, names, texts. (A part of XSesE, without the walk of live.) -/
set_option linter.unusedVariables false
set_option linter.unusedSimpArgs false
namespace Go.Proofs.YtpjkbamkaicoiaaDoor.Ses
open Go.RowKit U
theorem md5s (s : ByteArray) (hs : s.size ≤ 50000) : ∃ D : ByteArray, D.size = 16 ∧ (∀ w, Calls Tryd.prog 42 #[.string s] w fun e w' => e = .returned (.string D) ∧ Below w.heap.size w w') ∧ (∀ w, Calls Tryd.prog 29 #[.string s] w fun e w' => e = .returned (.string D) ∧ Below w.heap.size w w') :=
  ⟨⟨(Dg.md5 s.data.toList).toArray⟩, Dg.md5_length _, fun w => Dg.Md5_any s hs w, fun w => Dg.RMd5_any s hs w⟩
set_option maxHeartbeats 1000000 in
theorem Salted_any (k p t M D : ByteArray) (hs : k.size + M.size + t.size ≤ 50000) (cm : ∀ w, Calls Tryd.prog 42 #[.string p] w fun e w' => e = .returned (.string M) ∧ Below w.heap.size w w') (cd : ∀ w, Calls Tryd.prog 42 #[.string (k ++ M ++ t)] w fun e w' => e = .returned (.string D) ∧ Below w.heap.size w w') (w : World) :
    Calls Tryd.prog 27 #[.string k, .string p, .string t] w fun e w' => e = .returned (.string D) ∧ Below w.heap.size w w' := by
  have CM := Lib.hid cm
  have CD := Lib.hid cd
  clear cm cd
  go_enter Tryd.func27, Tryd.ntmps27
  go_wp2_with fail
  refine (CM.out _).mono ?_
  rintro e w1 ⟨rfl, b1⟩
  have B1 := Lib.hid b1
  clear b1
  go_wp2_with fail
  refine (CD.out _).mono ?_
  rintro e w2 ⟨rfl, b2⟩
  have B2 := Lib.hid (B1.out.trans (b2.mono B1.out.size))
  clear b2
  go_wp2
  go_ret
  exact ⟨rfl, B2.out⟩
set_option maxHeartbeats 1000000 in
theorem RSalted_any (k p M D : ByteArray) (hs : k.size + M.size ≤ 40000) (cm : ∀ w, Calls Tryd.prog 29 #[.string p] w fun e w' => e = .returned (.string M) ∧ Below w.heap.size w w') (cd : ∀ w, Calls Tryd.prog 29 #[.string (k ++ M ++ tailS)] w fun e w' => e = .returned (.string D) ∧ Below w.heap.size w w') (w : World) :
    Calls Tryd.prog 11 #[.string k, .string p] w fun e w' => e = .returned (.string D) ∧ Below w.heap.size w w' := by
  have CM := Lib.hid cm
  have CD := Lib.hid cd
  clear cm cd
  go_enter Tryd.func11, Tryd.ntmps11
  go_wp2_with fail
  refine (CM.out _).mono ?_
  rintro e w1 ⟨rfl, b1⟩
  have B1 := Lib.hid b1
  clear b1
  go_wp2_with fail
  refine (CD.out _).mono ?_
  rintro e w2 ⟨rfl, b2⟩
  have B2 := Lib.hid (B1.out.trans (b2.mono B1.out.size))
  clear b2
  go_wp2
  go_ret
  exact ⟨rfl, B2.out⟩
theorem tail_size : tailS.size = 26 := by kernel_rfl
theorem salteds (k p : ByteArray) (hk : k.size ≤ 20000) (hp : p.size ≤ 50000) : ∃ D : ByteArray, D.size = 16 ∧ (∀ w, Calls Tryd.prog 27 #[.string k, .string p, .string tailS] w fun e w' => e = .returned (.string D) ∧ Below w.heap.size w w') ∧ (∀ w, Calls Tryd.prog 11 #[.string k, .string p] w fun e w' => e = .returned (.string D) ∧ Below w.heap.size w w') := by
  obtain ⟨M, hM, m1, m2⟩ := md5s p hp
  have ht := tail_size
  obtain ⟨D, hD, d1, d2⟩ := md5s (k ++ M ++ tailS) (by rw [ByteArray.size_append, ByteArray.size_append]; omega)
  exact ⟨D, hD, fun w => Salted_any k p tailS M D (by omega) m1 d1 w, fun w => RSalted_any k p M D (by omega) m2 d2 w⟩
theorem same_yes (a b : ByteArray) (ha : a.size ≤ 68719476736) (hb : b.size ≤ 68719476736) (h : Han.norm a.data.toList = Han.norm b.data.toList) (w : World) : Calls Tryd.prog 28 #[.string a, .string b] w fun e w' => e = .returned (.bool true) ∧ Below w.heap.size w w' :=
  (Han.Same_any a b ha hb w).mono fun e w' ⟨h1, h2⟩ => ⟨by rw [h1, h]; simp, h2⟩
theorem check_yes (s : ByteArray) (hs : s.size ≤ 1000000) (h : HanP.isName s.data.toList = true) (w : World) : Calls Tryd.prog 40 #[.string s] w fun e w' => e = .returned (.int .i64 0) ∧ Below w.heap.size w w' :=
  F.handle_Check.calls s 0 w (by unfold F.handle_Check.f F.hm; rw [if_pos hs, h]; rfl)
theorem check_no (s : ByteArray) (hs : s.size ≤ 1000000) (h : HanP.isName s.data.toList = false) (w : World) : Calls Tryd.prog 40 #[.string s] w fun e w' => e = .returned (.int .i64 40) ∧ Below w.heap.size w w' :=
  F.handle_Check.calls s 40 w (by unfold F.handle_Check.f F.hm; rw [if_pos hs, h]; rfl)
theorem text_yes (s : ByteArray) (hs : s.size ≤ 1000000) (h : GlyP.isText s.data.toList = true) (w : World) : Calls Tryd.prog 39 #[.string s] w fun e w' => e = .returned (.int .i64 0) ∧ Below w.heap.size w w' :=
  (Gly.Check_any s (by omega) w).mono fun e w' ⟨h1, h2⟩ => ⟨by rw [h1, h]; rfl, h2⟩
theorem text_no (s : ByteArray) (hs : s.size ≤ 1000000) (h : GlyP.isText s.data.toList = false) (w : World) : Calls Tryd.prog 39 #[.string s] w fun e w' => e = .returned (.int .i64 10) ∧ Below w.heap.size w w' :=
  (Gly.Check_any s (by omega) w).mono fun e w' ⟨h1, h2⟩ => ⟨by rw [h1, h]; rfl, h2⟩
end Go.Proofs.YtpjkbamkaicoiaaDoor.Ses
end
