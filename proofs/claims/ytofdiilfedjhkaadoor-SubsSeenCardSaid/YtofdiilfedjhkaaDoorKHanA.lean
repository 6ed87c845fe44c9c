/- Contracts of functions of this translation, and what they come to; what is not used is left out. -/
import Derived.Test.YtofdiilfedjhkaaDoorKGlyA
import Derived.Test.YtofdiilfedjhkaaDoorKGlyP
import Derived.Test.YtofdiilfedjhkaaDoorKUtil
import Derived.Test.YtofdiilfedjhkaaDoorKRep
import Derived.Test.YtofdiilfedjhkaaDoorKStrs
import Derived.Test.YtofdiilfedjhkaaDoorKShelf
import Derived.Test.YtofdiilfedjhkaaDoorKBld

section
/- handle.Norm and handle.Same at this translation. -/
set_option linter.unusedVariables false
set_option linter.unusedSimpArgs false
namespace Go.Proofs.YtofdiilfedjhkaaDoor.Han
open Go.RowKit Gly Rep

/-- A name's plain form. -/
def norm (l : List UInt8) : List UInt8 := without 32 (l.map low)
def normB (s : ByteArray) : ByteArray := ⟨(norm s.data.toList).toArray⟩
theorem Norm_any (s : ByteArray) (hs : s.size ≤ 68719476736) (w : World) :
    Calls Tryd.prog 24 #[.string s] w fun e w' => e = .returned (.string (normB s)) ∧ Below w.heap.size w w' := by
  obtain ⟨T, hT⟩ : ∃ T : ByteArray, T = ⟨(s.data.toList.map low).toArray⟩ := ⟨_, rfl⟩
  have hTd : T.data.toList = s.data.toList.map low := by rw [hT]
  have hz : T.size ≤ 68719476736 := by rw [← U.len_data, hTd, List.length_map, U.len_data]; exact hs
  have HF : Hid (∀ w, Calls Tryd.prog 26 #[.string s] w fun e w' => e = .returned (.string T) ∧ Below w.heap.size w w') := Lib.hid (fun w => by rw [hT]; exact Fold_any s (by omega) w)
  have HR : Hid (∀ w, Calls Tryd.prog 25 #[.string T, .string ⟨#[32]⟩, .string ⟨#[]⟩] w fun e w' => e = .returned (.string (normB s)) ∧ Below w.heap.size w w') := Lib.hid (fun w => by
    have := ReplaceAll_one T 32 hz w
    rw [hTd] at this
    exact this)
  clear hTd hT hz
  go_enter Tryd.func24, Tryd.ntmps24
  go_wp2_with fail
  refine (HF.out _).mono ?_
  rintro e w1 ⟨rfl, hb1⟩
  have HB := Lib.hid hb1
  clear hb1
  go_wp2_with fail
  refine (HR.out _).mono ?_
  rintro e w2 ⟨rfl, hb2⟩
  go_wp2
  go_ret
  exact ⟨rfl, U.below_then HB.out hb2⟩
theorem Same_any (a b : ByteArray) (ha : a.size ≤ 68719476736) (hb : b.size ≤ 68719476736) (w : World) :
    Calls Tryd.prog 17 #[.string a, .string b] w fun e w' => e = .returned (.bool (norm a.data.toList == norm b.data.toList)) ∧ Below w.heap.size w w' := by
  have HA := Lib.hid (fun w => Norm_any a ha w)
  have HB := Lib.hid (fun w => Norm_any b hb w)
  have hv : ((normB a).toList == (normB b).toList) = (norm a.data.toList == norm b.data.toList) := by rw [Lib.toList_data, Lib.toList_data]; rfl
  have HV := Lib.hid hv
  clear hv
  go_enter Tryd.func17, Tryd.ntmps17
  go_wp2_with fail
  refine (HA.out _).mono ?_
  rintro e w1 ⟨rfl, hb1⟩
  have H1 := Lib.hid hb1
  clear hb1
  go_wp2_with fail
  refine (HB.out _).mono ?_
  rintro e w2 ⟨rfl, hb2⟩
  have H2 := Lib.hid (U.below_then H1.out hb2)
  clear hb2
  go_wp2
  go_ret
  exact ⟨by rw [← HV.out]; rfl, H2.out⟩
end Go.Proofs.YtofdiilfedjhkaaDoor.Han
end
