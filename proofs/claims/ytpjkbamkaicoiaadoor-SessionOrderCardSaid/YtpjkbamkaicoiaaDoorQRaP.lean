/- Contracts of functions of this translation, and what they come to; what is not used is left out. -/
import Derived.Test.YtpjkbamkaicoiaaDoorQUtil
import Derived.Test.YtpjkbamkaicoiaaDoorQGlyP
import Derived.Test.YtpjkbamkaicoiaaDoorQRa2
import Derived.Test.YtpjkbamkaicoiaaDoorQRa1
import Derived.Test.YtpjkbamkaicoiaaDoorQRa0
import Derived.Test.YtpjkbamkaicoiaaDoorQg0
import Derived.Test.YtpjkbamkaicoiaaDoorQRefJ
import Derived.Test.YtpjkbamkaicoiaaDoorQRefF
import Derived.Test.YtpjkbamkaicoiaaDoorQGlyA

section
/- wharfref01.First and Signs, as printed, against the signs of a text: plain. -/
set_option linter.unusedVariables false
set_option linter.unusedSimpArgs false
namespace Go.Proofs.YtpjkbamkaicoiaaDoor.RaP
open Go.RowKit GlyP Go.Proofs.YtpjkbamkaicoiaaDoorW.PrintWords Go.Proofs.YtpjkbamkaicoiaaDoorW.PrintLast Go.Proofs.YtpjkbamkaicoiaaDoorW.PrintMore Ra

theorem map_inj {l m : List UInt8} (h : l.map (fun b => (b.toNat : Int)) = m.map (fun b => (b.toNat : Int))) : l = m := by
  have hi : Function.Injective (fun b : UInt8 => (b.toNat : Int)) := fun a b h => by
    have : (a.toNat : Int) = (b.toNat : Int) := h
    rw [← UInt8.toNat_inj]; omega
  exact (List.map_inj_right (fun a b => @hi a b)).mp h
theorem nums_back (xs : List Int) (h : ∀ x ∈ xs, 0 ≤ x ∧ x < 256) : (strOfNums xs).data.toList.map (fun b => (b.toNat : Int)) = xs := by
  rw [strOfNums_data, List.map_map]
  conv => rhs; rw [← List.map_id xs]
  apply List.map_congr_left
  intro x hx
  have := h x hx
  simp only [Function.comp, id_eq, UInt8.toNat_ofNat']
  omega
theorem ints_eq (s : ByteArray) (xs : List Int) (hx : ∀ x ∈ xs, 0 ≤ x ∧ x < 256) (n : Nat) (hn : n ≤ s.size) (hl : xs.length = n) (j : Nat) (hj : j = n) :
    ((strOfNums xs).toList = (s.extract 0 j).toList) ↔ (xs = (List.range n).map fun i => (by_ s.data.toList i : Int)) := by
  subst hj
  rw [Lib.toList_data, Lib.toList_data, U.take_data]
  have e : (s.data.toList.take j).map (fun b => (b.toNat : Int)) = (List.range j).map fun i => (by_ s.data.toList i : Int) := by
    apply List.ext_getElem
    · simp [U.len_data]; omega
    · intro i h1 h2
      have hi : i < s.size := by simp at h1; omega
      rw [List.getElem_map, List.getElem_map, List.getElem_take, List.getElem_range]
      unfold by_
      rw [List.getD_eq_getElem?_getD, List.getElem?_eq_getElem (show i < s.data.toList.length by rw [U.len_data]; exact hi)]; rfl
  constructor
  · intro h
    have := congrArg (List.map fun b : UInt8 => (b.toNat : Int)) h
    rw [nums_back xs hx, e] at this
    exact this
  · intro h
    apply map_inj
    rw [nums_back xs hx, e]; exact h

def sgn (c : Int) : Bool := decide (c < 55296) || decide (57343 < c) && decide (c ≤ 1114111)
def encI (c : Int) : List Int :=
  if c < 128 then [c] else if c < 2048 then [192 + c / 64, 128 + c % 64] else if c < 65536 then [224 + c / 4096, 128 + c / 64 % 64, 128 + c % 64]
  else [240 + c / 262144, 128 + c / 4096 % 64, 128 + c / 64 % 64, 128 + c % 64]
theorem w64 (x : Int) (h0 : -9000000000000000000 ≤ x) (h1 : x ≤ 9000000000000000000) : wrap64 x = x := by simp only [wrap64]; omega
theorem put_eq (c : Int) (h0 : 0 ≤ c) (h1 : c < 2097152) : wharfref01_Put.f c = some (if sgn c = true then (strOfNums (encI c), 0) else (⟨#[]⟩, 10)) := by
  have hi : wharfref01_Is.f c = some (sgn c) := by
    unfold wharfref01_Is.f sgn
    rw [if_pos (show c ≥ 0 by omega)]
    by_cases a1 : c ≤ 1114111
    · rw [if_pos a1]
      by_cases a2 : c < 55296
      · rw [if_pos a2]; simp [a2]
      · rw [if_neg a2]; simp [a1, a2]
    · rw [if_neg a1]
      have a2 : ¬ c < 55296 := by omega
      simp [a1, a2]
  unfold wharfref01_Put.f
  rw [hi]
  simp only [Option.bind_some]
  cases hs : sgn c with
  | false => simp
  | true =>
    have hc : c ≤ 1114111 := by unfold sgn at hs; simp at hs; omega
    simp only [if_true]
    unfold encI
    rw [Int.tdiv_eq_ediv_of_nonneg h0, Int.tdiv_eq_ediv_of_nonneg h0, Int.tdiv_eq_ediv_of_nonneg h0, Int.tmod_eq_emod_of_nonneg h0]
    rw [w64 (c / 64) (by omega) (by omega), w64 (c / 4096) (by omega) (by omega), w64 (c / 262144) (by omega) (by omega),
      Int.tmod_eq_emod_of_nonneg (show 0 ≤ c / 64 by omega), Int.tmod_eq_emod_of_nonneg (show 0 ≤ c / 4096 by omega)]
    rw [w64 (192 + c / 64) (by omega) (by omega), w64 (128 + c % 64) (by omega) (by omega), w64 (224 + c / 4096) (by omega) (by omega), w64 (128 + c / 64 % 64) (by omega) (by omega), w64 (240 + c / 262144) (by omega) (by omega), w64 (128 + c / 4096 % 64) (by omega) (by omega)]
    by_cases a1 : c < 128
    · rw [if_pos a1, if_pos a1, Int.emod_eq_of_lt h0 (by omega)]
    · rw [if_neg a1, if_neg a1]
      by_cases a2 : c < 2048
      · rw [if_pos a2, if_pos a2, Int.emod_eq_of_lt (by omega) (show 192 + c / 64 < 256 by omega), Int.emod_eq_of_lt (by omega) (show 128 + c % 64 < 256 by omega)]
      · rw [if_neg a2, if_neg a2]
        by_cases a3 : c < 65536
        · rw [if_pos a3, if_pos a3, Int.emod_eq_of_lt (by omega) (show 224 + c / 4096 < 256 by omega), Int.emod_eq_of_lt (by omega) (show 128 + c / 64 % 64 < 256 by omega), Int.emod_eq_of_lt (by omega) (show 128 + c % 64 < 256 by omega)]
        · rw [if_neg a3, if_neg a3, Int.emod_eq_of_lt (by omega) (show 240 + c / 262144 < 256 by omega), Int.emod_eq_of_lt (by omega) (show 128 + c / 4096 % 64 < 256 by omega), Int.emod_eq_of_lt (by omega) (show 128 + c / 64 % 64 < 256 by omega), Int.emod_eq_of_lt (by omega) (show 128 + c % 64 < 256 by omega)]
theorem enc_range (c : Int) (h0 : 0 ≤ c) (h1 : c < 1114112) : ∀ x ∈ encI c, 0 ≤ x ∧ x < 256 := by
  unfold encI
  repeat' split
  all_goals
    intro x hx
    simp only [List.mem_cons, List.not_mem_nil, or_false] at hx
    omega

/-- The end of the loop: as few bytes as can be. -/
theorem fin (s : ByteArray) (n : Nat) (c : Int) (h0 : 0 ≤ c) (h1 : c < 2097152) (hn : n ≤ s.size) :
    Ev (fun k => wharfref01_First.l0 k s (n : Int) c (n : Int)) (if sgn c = true ∧ encI c = (List.range n).map (fun i => (by_ s.data.toList i : Int)) then (c, (n : Int), 0) else (0, 0, 10)) := by
  refine Ev.step (fun k => ?_) (Ev.now _)
  simp only [wharfref01_First.l0]
  rw [if_neg (by omega), put_eq c h0 h1]
  simp only [Option.bind_some]
  cases hs : sgn c with
  | false => simp
  | true =>
    have hc : c ≤ 1114111 := by unfold sgn at hs; simp at hs; omega
    simp only [if_true, true_and]
    rw [if_pos (by omega), if_pos (by omega)]
    by_cases hl : (encI c).length = n
    · have hie := ints_eq s (encI c) (enc_range c h0 (by omega)) n hn hl (n : Int).toNat (by omega)
      by_cases he : encI c = (List.range n).map (fun i => (by_ s.data.toList i : Int))
      · rw [if_pos (hie.mpr he), if_pos he]
      · rw [if_neg (fun h => he (hie.mp h)), if_neg he]
    · have n1 : ¬ encI c = (List.range n).map (fun i => (by_ s.data.toList i : Int)) := fun h => hl (by rw [h]; simp)
      have n2 : ¬ (strOfNums (encI c)).toList = (s.extract 0 (n : Int).toNat).toList := fun h => hl (by
        have := congrArg List.length h
        rw [Lib.toList_data, Lib.toList_data, strOfNums_data, U.take_data, List.length_map, List.length_take, U.len_data] at this
        omega)
      rw [if_neg n1, if_neg n2]
end Go.Proofs.YtpjkbamkaicoiaaDoor.RaP
end
