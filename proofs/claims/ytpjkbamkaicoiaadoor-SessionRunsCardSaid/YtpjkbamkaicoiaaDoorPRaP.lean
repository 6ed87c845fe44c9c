/- Contracts of functions of this translation, and what they come to; what is not used is left out. -/
import Derived.Test.YtpjkbamkaicoiaaDoorPUtil
import Derived.Test.YtpjkbamkaicoiaaDoorPGlyP
import Derived.Test.YtpjkbamkaicoiaaDoorPRa2
import Derived.Test.YtpjkbamkaicoiaaDoorPRa1
import Derived.Test.YtpjkbamkaicoiaaDoorPRa0
import Derived.Test.YtpjkbamkaicoiaaDoorPg0
import Derived.Test.YtpjkbamkaicoiaaDoorPRefJ
import Derived.Test.YtpjkbamkaicoiaaDoorPRefF
import Derived.Test.YtpjkbamkaicoiaaDoorPGlyA

section
/- wharfref01.First and Signs, as printed, against the signs of a text: plain. -/
set_option linter.unusedVariables false
set_option linter.unusedSimpArgs false
namespace Go.Proofs.YtpjkbamkaicoiaaDoor.RaP
open Go.RowKit GlyP Go.Proofs.YtpjkbamkaicoiaaDoorW.PrintWords Go.Proofs.YtpjkbamkaicoiaaDoorW.PrintLast Go.Proofs.YtpjkbamkaicoiaaDoorW.PrintMore Ra

theorem bt_by (s : ByteArray) (i : Nat) (j : Int) (h : j = (i : Int)) : bt s j = (by_ s.data.toList i : Int) := by
  subst h
  unfold bt by_
  by_cases hh : i < s.size
  · rw [dif_pos (by simpa using hh), List.getD_eq_getElem?_getD, List.getElem?_eq_getElem (by rw [U.len_data]; exact hh)]; rfl
  · rw [dif_neg (by simpa using hh), List.getD_eq_getElem?_getD, List.getElem?_eq_none (by rw [U.len_data]; omega)]; rfl

theorem map_inj {l m : List UInt8} (h : l.map (fun b => (b.toNat : Int)) = m.map (fun b => (b.toNat : Int))) : l = m := by
  have hi : Function.Injective (fun b : UInt8 => (b.toNat : Int)) := fun a b h => by
    have : (a.toNat : Int) = (b.toNat : Int) := h
    rw [← UInt8.toNat_inj]; omega
  exact (List.map_inj_right (fun a b => @hi a b)).mp h
theorem nums_back (xs : List Int) (h : ∀ x ∈ xs, 0 ≤ x ∧ x < 256) : (strOfNums xs).data.toList.map (fun b => (b.toNat : Int)) = xs := by
  rw [strOfNums_data, List.map_map]
  conv => rhs; rw [← List.map_id xs]
  apply List.map_congr_left
  intro x hx
  have := h x hx
  simp only [Function.comp, id_eq, UInt8.toNat_ofNat']
  omega
theorem ints_eq (s : ByteArray) (xs : List Int) (hx : ∀ x ∈ xs, 0 ≤ x ∧ x < 256) (n : Nat) (hn : n ≤ s.size) (hl : xs.length = n) (j : Nat) (hj : j = n) :
    ((strOfNums xs).toList = (s.extract 0 j).toList) ↔ (xs = (List.range n).map fun i => (by_ s.data.toList i : Int)) := by
  subst hj
  rw [Lib.toList_data, Lib.toList_data, U.take_data]
  have e : (s.data.toList.take j).map (fun b => (b.toNat : Int)) = (List.range j).map fun i => (by_ s.data.toList i : Int) := by
    apply List.ext_getElem
    · simp [U.len_data]; omega
    · intro i h1 h2
      have hi : i < s.size := by simp at h1; omega
      rw [List.getElem_map, List.getElem_map, List.getElem_take, List.getElem_range]
      unfold by_
      rw [List.getD_eq_getElem?_getD, List.getElem?_eq_getElem (show i < s.data.toList.length by rw [U.len_data]; exact hi)]; rfl
  constructor
  · intro h
    have := congrArg (List.map fun b : UInt8 => (b.toNat : Int)) h
    rw [nums_back xs hx, e] at this
    exact this
  · intro h
    apply map_inj
    rw [nums_back xs hx, e]; exact h

def sgn (c : Int) : Bool := decide (c < 55296) || decide (57343 < c) && decide (c ≤ 1114111)
def encI (c : Int) : List Int :=
  if c < 128 then [c] else if c < 2048 then [192 + c / 64, 128 + c % 64] else if c < 65536 then [224 + c / 4096, 128 + c / 64 % 64, 128 + c % 64]
  else [240 + c / 262144, 128 + c / 4096 % 64, 128 + c / 64 % 64, 128 + c % 64]
theorem w64 (x : Int) (h0 : -9000000000000000000 ≤ x) (h1 : x ≤ 9000000000000000000) : wrap64 x = x := by simp only [wrap64]; omega
theorem put_eq (c : Int) (h0 : 0 ≤ c) (h1 : c < 2097152) : wharfref01_Put.f c = some (if sgn c = true then (strOfNums (encI c), 0) else (⟨#[]⟩, 10)) := by
  have hi : wharfref01_Is.f c = some (sgn c) := by
    unfold wharfref01_Is.f sgn
    rw [if_pos (show c ≥ 0 by omega)]
    by_cases a1 : c ≤ 1114111
    · rw [if_pos a1]
      by_cases a2 : c < 55296
      · rw [if_pos a2]; simp [a2]
      · rw [if_neg a2]; simp [a1, a2]
    · rw [if_neg a1]
      have a2 : ¬ c < 55296 := by omega
      simp [a1, a2]
  unfold wharfref01_Put.f
  rw [hi]
  simp only [Option.bind_some]
  cases hs : sgn c with
  | false => simp
  | true =>
    have hc : c ≤ 1114111 := by unfold sgn at hs; simp at hs; omega
    simp only [if_true]
    unfold encI
    rw [Int.tdiv_eq_ediv_of_nonneg h0, Int.tdiv_eq_ediv_of_nonneg h0, Int.tdiv_eq_ediv_of_nonneg h0, Int.tmod_eq_emod_of_nonneg h0]
    rw [w64 (c / 64) (by omega) (by omega), w64 (c / 4096) (by omega) (by omega), w64 (c / 262144) (by omega) (by omega),
      Int.tmod_eq_emod_of_nonneg (show 0 ≤ c / 64 by omega), Int.tmod_eq_emod_of_nonneg (show 0 ≤ c / 4096 by omega)]
    rw [w64 (192 + c / 64) (by omega) (by omega), w64 (128 + c % 64) (by omega) (by omega), w64 (224 + c / 4096) (by omega) (by omega), w64 (128 + c / 64 % 64) (by omega) (by omega), w64 (240 + c / 262144) (by omega) (by omega), w64 (128 + c / 4096 % 64) (by omega) (by omega)]
    by_cases a1 : c < 128
    · rw [if_pos a1, if_pos a1, Int.emod_eq_of_lt h0 (by omega)]
    · rw [if_neg a1, if_neg a1]
      by_cases a2 : c < 2048
      · rw [if_pos a2, if_pos a2, Int.emod_eq_of_lt (by omega) (show 192 + c / 64 < 256 by omega), Int.emod_eq_of_lt (by omega) (show 128 + c % 64 < 256 by omega)]
      · rw [if_neg a2, if_neg a2]
        by_cases a3 : c < 65536
        · rw [if_pos a3, if_pos a3, Int.emod_eq_of_lt (by omega) (show 224 + c / 4096 < 256 by omega), Int.emod_eq_of_lt (by omega) (show 128 + c / 64 % 64 < 256 by omega), Int.emod_eq_of_lt (by omega) (show 128 + c % 64 < 256 by omega)]
        · rw [if_neg a3, if_neg a3, Int.emod_eq_of_lt (by omega) (show 240 + c / 262144 < 256 by omega), Int.emod_eq_of_lt (by omega) (show 128 + c / 4096 % 64 < 256 by omega), Int.emod_eq_of_lt (by omega) (show 128 + c / 64 % 64 < 256 by omega), Int.emod_eq_of_lt (by omega) (show 128 + c % 64 < 256 by omega)]
theorem enc_range (c : Int) (h0 : 0 ≤ c) (h1 : c < 1114112) : ∀ x ∈ encI c, 0 ≤ x ∧ x < 256 := by
  unfold encI
  repeat' split
  all_goals
    intro x hx
    simp only [List.mem_cons, List.not_mem_nil, or_false] at hx
    omega

def res3 (o : Option (Nat × Nat)) : Int × Int × Int := match o with | none => (0, 0, 10) | some (c, n) => ((c : Int), (n : Int), 0)
/-- The end of the loop: as few bytes as can be. -/
theorem fin (s : ByteArray) (n : Nat) (c : Int) (h0 : 0 ≤ c) (h1 : c < 2097152) (hn : n ≤ s.size) :
    Ev (fun k => wharfref01_First.l0 k s (n : Int) c (n : Int)) (if sgn c = true ∧ encI c = (List.range n).map (fun i => (by_ s.data.toList i : Int)) then (c, (n : Int), 0) else (0, 0, 10)) := by
  refine Ev.step (fun k => ?_) (Ev.now _)
  simp only [wharfref01_First.l0]
  rw [if_neg (by omega), put_eq c h0 h1]
  simp only [Option.bind_some]
  cases hs : sgn c with
  | false => simp
  | true =>
    have hc : c ≤ 1114111 := by unfold sgn at hs; simp at hs; omega
    simp only [if_true, true_and]
    rw [if_pos (by omega), if_pos (by omega)]
    by_cases hl : (encI c).length = n
    · have hie := ints_eq s (encI c) (enc_range c h0 (by omega)) n hn hl (n : Int).toNat (by omega)
      by_cases he : encI c = (List.range n).map (fun i => (by_ s.data.toList i : Int))
      · rw [if_pos (hie.mpr he), if_pos he]
      · rw [if_neg (fun h => he (hie.mp h)), if_neg he]
    · have n1 : ¬ encI c = (List.range n).map (fun i => (by_ s.data.toList i : Int)) := fun h => hl (by rw [h]; simp)
      have n2 : ¬ (strOfNums (encI c)).toList = (s.extract 0 (n : Int).toNat).toList := fun h => hl (by
        have := congrArg List.length h
        rw [Lib.toList_data, Lib.toList_data, strOfNums_data, U.take_data, List.length_map, List.length_take, U.len_data] at this
        omega)
      rw [if_neg n1, if_neg n2]
theorem bad (s : ByteArray) (n i : Nat) (c : Int) (h : i < n) (hn : n ≤ s.size) (hb : ¬ (128 ≤ by_ s.data.toList i ∧ by_ s.data.toList i < 192)) :
    Ev (fun k => wharfref01_First.l0 k s (n : Int) c (i : Int)) (0, 0, 10) := by
  refine Ev.step (fun k => ?_) (Ev.now _)
  simp only [wharfref01_First.l0]
  rw [if_pos (by omega), if_pos (by omega), if_pos (by omega), bt_by s i _ rfl]
  by_cases a : (by_ s.data.toList i : Int) < 128
  · rw [if_pos a]
  · rw [if_neg a, if_pos (by omega)]
theorem more (s : ByteArray) (n i : Nat) (c : Int) (h : i < n) (hn : n ≤ s.size) (hb : 128 ≤ by_ s.data.toList i ∧ by_ s.data.toList i < 192) (h0 : 0 ≤ c) (h1 : c < 32768) (hs : s.size < 9000000000000000000) (r : Int × Int × Int)
    (hr : Ev (fun k => wharfref01_First.l0 k s (n : Int) (64 * c + (by_ s.data.toList i : Int) - 128) ((i + 1 : Nat) : Int)) r) :
    Ev (fun k => wharfref01_First.l0 k s (n : Int) c (i : Int)) r := by
  refine Ev.step (fun k => ?_) hr
  simp only [wharfref01_First.l0]
  rw [if_pos (by omega), if_pos (by omega), if_pos (by omega), bt_by s i _ rfl]
  rw [if_neg (by omega), if_neg (by omega), w64 (by_ s.data.toList i : Int) (by omega) (by omega), w64 (64 * c) (by omega) (by omega), w64 (64 * c + (by_ s.data.toList i : Int)) (by omega) (by omega), w64 (64 * c + (by_ s.data.toList i : Int) - 128) (by omega) (by omega), w64 ((i : Int) + 1) (by omega) (by omega)]
  rfl

theorem first_of (l : List UInt8) (c n : Nat) (h : dec l = (c, n)) (hl : 0 < l.length) (hn : ¬ (c = 65533 ∧ n = 1)) : first l = some (c, n) := by
  unfold first
  rw [if_neg (by omega), h, if_neg hn]
theorem first_no (l : List UInt8) (h : dec l = (65533, 1)) : first l = none := by
  unfold first
  split
  · rfl
  · rw [h, if_pos (by decide)]
theorem first_1 (l : List UInt8) (h : 0 < l.length) (hb : by_ l 0 < 128) : first l = some (by_ l 0, 1) := by
  refine first_of l _ _ ?_ h (by omega)
  unfold dec Lib.decodeN
  rw [if_pos hb]
theorem first_bad (l : List UInt8) (hb : (128 ≤ by_ l 0 ∧ by_ l 0 < 192) ∨ 248 ≤ by_ l 0) : first l = none := by
  have := by_lt l 0
  refine first_no l ?_
  unfold dec Lib.decodeN
  generalize by_ l 0 = b0 at *
  rw [if_neg (by omega), if_neg (by omega), if_neg (by omega), if_neg (by omega)]
theorem first_2 (l : List UInt8) (hb : 192 ≤ by_ l 0 ∧ by_ l 0 < 224) :
    first l = if 2 ≤ l.length ∧ (128 ≤ by_ l 1 ∧ by_ l 1 < 192) ∧ 194 ≤ by_ l 0 then some ((by_ l 0 - 192) * 64 + (by_ l 1 - 128), 2) else none := by
  have := by_lt l 1
  by_cases hc : 2 ≤ l.length ∧ (128 ≤ by_ l 1 ∧ by_ l 1 < 192) ∧ 194 ≤ by_ l 0
  · rw [if_pos hc]
    refine first_of l _ _ ?_ (by omega) (by omega)
    unfold dec Lib.decodeN
    have e : by_ l 0 % 32 * 64 + by_ l 1 % 64 = (by_ l 0 - 192) * 64 + (by_ l 1 - 128) := by omega
    rw [if_neg (by omega), if_pos (by omega), e, if_pos (by omega)]
  · rw [if_neg hc]
    refine first_no l ?_
    unfold dec Lib.decodeN
    rw [if_neg (by omega)]
    by_cases h6 : by_ l 0 / 32 = 6 ∧ (1 < l.length ∧ by_ l 1 / 64 = 2)
    · rw [if_pos h6, if_neg (by omega)]
    · rw [if_neg h6, if_neg (by omega), if_neg (by omega)]
theorem first_3 (l : List UInt8) (hb : 224 ≤ by_ l 0 ∧ by_ l 0 < 240) (c : Nat) (hc : c = (by_ l 0 - 224) * 4096 + (by_ l 1 - 128) * 64 + (by_ l 2 - 128)) :
    first l = if 3 ≤ l.length ∧ (128 ≤ by_ l 1 ∧ by_ l 1 < 192) ∧ (128 ≤ by_ l 2 ∧ by_ l 2 < 192) ∧ 2048 ≤ c ∧ (c < 55296 ∨ 57344 ≤ c) then some (c, 3) else none := by
  have := by_lt l 1
  have := by_lt l 2
  by_cases hk : 3 ≤ l.length ∧ (128 ≤ by_ l 1 ∧ by_ l 1 < 192) ∧ (128 ≤ by_ l 2 ∧ by_ l 2 < 192) ∧ 2048 ≤ c ∧ (c < 55296 ∨ 57344 ≤ c)
  · have e : by_ l 0 % 16 * 4096 + by_ l 1 % 64 * 64 + by_ l 2 % 64 = c := by omega
    rw [if_pos hk]
    refine first_of l _ _ ?_ (by omega) (by omega)
    unfold dec Lib.decodeN
    rw [if_neg (by omega), if_neg (by omega), if_pos (by omega), e, if_pos (by omega)]
  · rw [if_neg hk]
    refine first_no l ?_
    unfold dec Lib.decodeN
    rw [if_neg (by omega), if_neg (by omega)]
    by_cases h6 : by_ l 0 / 16 = 14 ∧ (1 < l.length ∧ by_ l 1 / 64 = 2) ∧ (2 < l.length ∧ by_ l 2 / 64 = 2)
    · have e : by_ l 0 % 16 * 4096 + by_ l 1 % 64 * 64 + by_ l 2 % 64 = c := by omega
      rw [if_pos h6, e, if_neg (by omega)]
    · rw [if_neg h6, if_neg (by omega)]
set_option maxRecDepth 100000 in
theorem first_4 (l : List UInt8) (hb : 240 ≤ by_ l 0 ∧ by_ l 0 < 248) (c : Nat) (hc : c = (by_ l 0 - 240) * 262144 + (by_ l 1 - 128) * 4096 + (by_ l 2 - 128) * 64 + (by_ l 3 - 128)) :
    first l = if 4 ≤ l.length ∧ (128 ≤ by_ l 1 ∧ by_ l 1 < 192) ∧ (128 ≤ by_ l 2 ∧ by_ l 2 < 192) ∧ (128 ≤ by_ l 3 ∧ by_ l 3 < 192) ∧ 65536 ≤ c ∧ c ≤ 1114111 then some (c, 4) else none := by
  have := by_lt l 1
  have := by_lt l 2
  have := by_lt l 3
  by_cases hk : 4 ≤ l.length ∧ (128 ≤ by_ l 1 ∧ by_ l 1 < 192) ∧ (128 ≤ by_ l 2 ∧ by_ l 2 < 192) ∧ (128 ≤ by_ l 3 ∧ by_ l 3 < 192) ∧ 65536 ≤ c ∧ c ≤ 1114111
  · have e : by_ l 0 % 8 * 262144 + by_ l 1 % 64 * 4096 + by_ l 2 % 64 * 64 + by_ l 3 % 64 = c := by omega
    rw [if_pos hk]
    refine first_of l _ _ ?_ (by omega) (by omega)
    unfold dec Lib.decodeN
    rw [if_neg (by omega), if_neg (by omega), if_neg (by omega), if_pos (by omega), e, if_pos (by omega)]
  · rw [if_neg hk]
    refine first_no l ?_
    unfold dec Lib.decodeN
    rw [if_neg (by omega), if_neg (by omega), if_neg (by omega)]
    by_cases h6 : by_ l 0 / 8 = 30 ∧ (1 < l.length ∧ by_ l 1 / 64 = 2) ∧ (2 < l.length ∧ by_ l 2 / 64 = 2) ∧ (3 < l.length ∧ by_ l 3 / 64 = 2)
    · have e : by_ l 0 % 8 * 262144 + by_ l 1 % 64 * 4096 + by_ l 2 % 64 * 64 + by_ l 3 % 64 = c := by omega
      rw [if_pos h6, e, if_neg (by omega)]
    · rw [if_neg h6]

theorem j2_lo (s : ByteArray) (n : Nat) (c : Int) (h : s.size < n) : Ev (fun k => wharfref01_First.j2 k s (n : Int) c) (0, 0, 10) := by
  refine Ev.step (fun k => ?_) (Ev.now _)
  simp only [wharfref01_First.j2]
  rw [if_pos (by omega)]
theorem j2_hi (s : ByteArray) (n : Nat) (c : Int) (h : n ≤ s.size) (r : Int × Int × Int) (hr : Ev (fun k => wharfref01_First.l0 k s (n : Int) c ((1 : Nat) : Int)) r) : Ev (fun k => wharfref01_First.j2 k s (n : Int) c) r := by
  refine Ev.step (fun k => ?_) hr
  simp only [wharfref01_First.j2]
  rw [if_neg (by omega)]; rfl

set_option maxRecDepth 100000 in
set_option maxHeartbeats 1000000 in
theorem first_ev (s : ByteArray) (hs : s.size < 9000000000000000000) : Ev (fun k => wharfref01_First.f k s) (res3 (first s.data.toList)) := by
  by_cases hz : s.size = 0
  · have hl : s.data.toList.length = 0 := by rw [U.len_data]; exact hz
    have e : first s.data.toList = none := by unfold first; rw [if_pos hl]
    rw [e]
    refine Ev.congr (f := fun _ => some (0, 0, 10)) (fun k => ?_) (Ev.now _)
    simp only [wharfref01_First.f]
    rw [if_pos (U.toList_nil s hz)]
  · have hl : s.data.toList.length = s.size := U.len_data s
    have hne : ¬ s.toList = [] := fun h => by
      have := congrArg List.length h
      rw [Lib.toList_data, hl] at this; exact hz (this.trans rfl)
    have lt0 := by_lt s.data.toList 0
    have lt1 := by_lt s.data.toList 1
    have lt2 := by_lt s.data.toList 2
    have lt3 := by_lt s.data.toList 3
    obtain ⟨b0, e0⟩ : ∃ b0, b0 = by_ s.data.toList 0 := ⟨_, rfl⟩
    obtain ⟨b1, e1⟩ : ∃ b1, b1 = by_ s.data.toList 1 := ⟨_, rfl⟩
    obtain ⟨b2, e2⟩ : ∃ b2, b2 = by_ s.data.toList 2 := ⟨_, rfl⟩
    obtain ⟨b3, e3⟩ : ∃ b3, b3 = by_ s.data.toList 3 := ⟨_, rfl⟩
    rw [← e0] at lt0
    rw [← e1] at lt1
    rw [← e2] at lt2
    rw [← e3] at lt3
    have hf : ∀ k, wharfref01_First.f k s = if (b0 : Int) < 128 then wharfref01_First.j2 k s ((1 : Nat) : Int) (b0 : Int) else if (b0 : Int) ≥ 192 then wharfref01_First.j0 k s (b0 : Int) (decide ((b0 : Int) < 224)) else wharfref01_First.j0 k s (b0 : Int) false := by
      intro k
      simp only [wharfref01_First.f]
      rw [if_neg hne, if_pos (by omega), bt_by s 0 0 rfl, ← e0, w64 (b0 : Int) (by omega) (by omega)]; rfl
    refine Ev.congr hf ?_
    by_cases c1 : b0 < 128
    · simp only [if_pos (show (b0 : Int) < 128 by omega)]
      refine j2_hi s 1 b0 (by omega) _ ?_
      have := fin s 1 (b0 : Int) (by omega) (by omega) (by omega)
      rw [first_1 _ (by omega) (by omega), ← e0]
      rw [if_pos] at this
      · exact this
      · refine ⟨by unfold sgn; simp; omega, ?_⟩
        unfold encI
        rw [if_pos (by omega)]
        simp [List.range_succ, ← e0]
    · simp only [if_neg (show ¬ (b0 : Int) < 128 by omega)]
      have hj0 : ∀ (d : Bool) (r : Int × Int × Int), (d = true → Ev (fun k => wharfref01_First.j2 k s ((2 : Nat) : Int) ((b0 : Int) - 192)) r) → (d = false → Ev (fun k => if (b0 : Int) ≥ 224 then (wharfref01_First.j1 k s (b0 : Int) (decide ((b0 : Int) < 240))) else (wharfref01_First.j1 k s (b0 : Int) false)) r) →
          Ev (fun k => wharfref01_First.j0 k s (b0 : Int) d) r := by
        intro d r h1 h2
        cases d with
        | true =>
          refine Ev.step (fun k => ?_) (h1 rfl)
          simp only [wharfref01_First.j0, if_true]
          rw [w64 _ (by omega) (by omega)]; rfl
        | false =>
          refine Ev.step (fun k => ?_) (h2 rfl)
          simp only [wharfref01_First.j0]
          rfl
      have hj1 : ∀ (d : Bool) (r : Int × Int × Int), (d = true → Ev (fun k => wharfref01_First.j2 k s ((3 : Nat) : Int) ((b0 : Int) - 224)) r) → (d = false → Ev (fun k => if (b0 : Int) ≥ 240 then (if (b0 : Int) < 248 then (wharfref01_First.j2 k s ((4 : Nat) : Int) ((b0 : Int) - 240)) else some (0, 0, 10)) else some (0, 0, 10)) r) →
          Ev (fun k => wharfref01_First.j1 k s (b0 : Int) d) r := by
        intro d r h1 h2
        cases d with
        | true =>
          refine Ev.step (fun k => ?_) (h1 rfl)
          simp only [wharfref01_First.j1, if_true]
          rw [w64 _ (by omega) (by omega)]; rfl
        | false =>
          refine Ev.step (fun k => ?_) (h2 rfl)
          simp only [wharfref01_First.j1]
          rw [if_neg (by decide), w64 ((b0 : Int) - 240) (by omega) (by omega)]; rfl
      by_cases c2 : b0 < 192
      · simp only [if_neg (show ¬ (b0 : Int) ≥ 192 by omega)]
        rw [first_bad _ (by omega)]
        refine hj0 false _ (fun h => by cases h) (fun _ => ?_)
        simp only [if_neg (show ¬ (b0 : Int) ≥ 224 by omega)]
        refine hj1 false _ (fun h => by cases h) (fun _ => ?_)
        simp only [if_neg (show ¬ (b0 : Int) ≥ 240 by omega)]
        exact Ev.now _
      · simp only [if_pos (show (b0 : Int) ≥ 192 by omega)]
        by_cases c3 : b0 < 224
        · rw [decide_eq_true (show (b0 : Int) < 224 by omega), first_2 _ (by omega), ← e0, ← e1]
          refine hj0 true _ (fun _ => ?_) (fun h => by cases h)
          by_cases z : 2 ≤ s.size
          · refine j2_hi s 2 _ z _ ?_
            by_cases q1 : 128 ≤ b1 ∧ b1 < 192
            · refine more s 2 1 _ (by omega) z (by rw [← e1]; exact q1) (by omega) (by omega) hs _ ?_
              rw [← e1]
              have := fin s 2 (64 * ((b0 : Int) - 192) + (b1 : Int) - 128) (by omega) (by omega) (by omega)
              have er : (List.range 2).map (fun i => (by_ s.data.toList i : Int)) = [(b0 : Int), (b1 : Int)] := by simp [List.range_succ, ← e0, ← e1]
              rw [er] at this
              refine cast (congrArg _ ?_) this
              by_cases q : 194 ≤ b0
              · rw [if_pos, if_pos (by omega)]
                · unfold res3; simp only; congr 1; omega
                · refine ⟨by unfold sgn; simp; omega, ?_⟩
                  unfold encI
                  rw [if_neg (by omega), if_pos (by omega)]
                  congr 1
                  · omega
                  · congr 1; omega
              · rw [if_neg, if_neg (by omega)]
                · rfl
                · rintro ⟨_, h⟩
                  unfold encI at h
                  rw [if_pos (by omega)] at h
                  simp at h
            · rw [if_neg (by omega)]
              exact bad s 2 1 _ (by omega) z (by rw [← e1]; exact q1)
          · rw [if_neg (by omega)]
            exact j2_lo s 2 _ (by omega)
        · rw [decide_eq_false (show ¬ (b0 : Int) < 224 by omega)]
          refine hj0 false _ (fun h => by cases h) (fun _ => ?_)
          simp only [if_pos (show (b0 : Int) ≥ 224 by omega)]
          by_cases c4 : b0 < 240
          · rw [decide_eq_true (show (b0 : Int) < 240 by omega), first_3 _ (by omega) _ rfl, ← e0, ← e1, ← e2]
            refine hj1 true _ (fun _ => ?_) (fun h => by cases h)
            by_cases z : 3 ≤ s.size
            · refine j2_hi s 3 _ z _ ?_
              by_cases q1 : 128 ≤ b1 ∧ b1 < 192
              · refine more s 3 1 _ (by omega) z (by rw [← e1]; exact q1) (by omega) (by omega) hs _ ?_
                rw [← e1]
                by_cases q2 : 128 ≤ b2 ∧ b2 < 192
                · refine more s 3 2 _ (by omega) z (by rw [← e2]; exact q2) (by omega) (by omega) hs _ ?_
                  rw [← e2]
                  have := fin s 3 (64 * (64 * ((b0 : Int) - 224) + (b1 : Int) - 128) + (b2 : Int) - 128) (by omega) (by omega) (by omega)
                  have er : (List.range 3).map (fun i => (by_ s.data.toList i : Int)) = [(b0 : Int), (b1 : Int), (b2 : Int)] := by simp [List.range_succ, ← e0, ← e1, ← e2]
                  rw [er] at this
                  refine cast (congrArg _ ?_) this
                  obtain ⟨c, hc⟩ : ∃ c, c = (b0 - 224) * 4096 + (b1 - 128) * 64 + (b2 - 128) := ⟨_, rfl⟩
                  have hcc : 64 * (64 * ((b0 : Int) - 224) + (b1 : Int) - 128) + (b2 : Int) - 128 = (c : Int) := by omega
                  rw [hcc, ← hc]
                  by_cases q : 2048 ≤ c ∧ (c < 55296 ∨ 57344 ≤ c)
                  · rw [if_pos, if_pos (by omega)]
                    · rfl
                    · refine ⟨by unfold sgn; simp; omega, ?_⟩
                      unfold encI
                      rw [if_neg (by omega), if_neg (by omega), if_pos (by omega)]
                      congr 1
                      · omega
                      · congr 1
                        · omega
                        · congr 1; omega
                  · rw [if_neg, if_neg (by omega)]
                    · rfl
                    · rintro ⟨h1, h⟩
                      unfold sgn at h1
                      simp at h1
                      unfold encI at h
                      split at h
                      · simp at h
                      · split at h
                        · simp at h
                        · omega
                · rw [if_neg (by omega)]
                  exact bad s 3 2 _ (by omega) z (by rw [← e2]; exact q2)
              · rw [if_neg (by omega)]
                exact bad s 3 1 _ (by omega) z (by rw [← e1]; exact q1)
            · rw [if_neg (by omega)]
              exact j2_lo s 3 _ (by omega)
          · rw [decide_eq_false (show ¬ (b0 : Int) < 240 by omega)]
            refine hj1 false _ (fun h => by cases h) (fun _ => ?_)
            simp only [if_pos (show (b0 : Int) ≥ 240 by omega)]
            by_cases c5 : b0 < 248
            · simp only [if_pos (show (b0 : Int) < 248 by omega)]
              rw [first_4 _ (by omega) _ rfl, ← e0, ← e1, ← e2, ← e3]
              by_cases z : 4 ≤ s.size
              · refine j2_hi s 4 _ z _ ?_
                by_cases q1 : 128 ≤ b1 ∧ b1 < 192
                · refine more s 4 1 _ (by omega) z (by rw [← e1]; exact q1) (by omega) (by omega) hs _ ?_
                  rw [← e1]
                  by_cases q2 : 128 ≤ b2 ∧ b2 < 192
                  · refine more s 4 2 _ (by omega) z (by rw [← e2]; exact q2) (by omega) (by omega) hs _ ?_
                    rw [← e2]
                    by_cases q3 : 128 ≤ b3 ∧ b3 < 192
                    · refine more s 4 3 _ (by omega) z (by rw [← e3]; exact q3) (by omega) (by omega) hs _ ?_
                      rw [← e3]
                      have := fin s 4 (64 * (64 * (64 * ((b0 : Int) - 240) + (b1 : Int) - 128) + (b2 : Int) - 128) + (b3 : Int) - 128) (by omega) (by omega) (by omega)
                      have er : (List.range 4).map (fun i => (by_ s.data.toList i : Int)) = [(b0 : Int), (b1 : Int), (b2 : Int), (b3 : Int)] := by simp [List.range_succ, ← e0, ← e1, ← e2, ← e3]
                      rw [er] at this
                      refine cast (congrArg _ ?_) this
                      obtain ⟨c, hc⟩ : ∃ c, c = (b0 - 240) * 262144 + (b1 - 128) * 4096 + (b2 - 128) * 64 + (b3 - 128) := ⟨_, rfl⟩
                      have hcc : 64 * (64 * (64 * ((b0 : Int) - 240) + (b1 : Int) - 128) + (b2 : Int) - 128) + (b3 : Int) - 128 = (c : Int) := by omega
                      rw [hcc, ← hc]
                      by_cases q : 65536 ≤ c ∧ c ≤ 1114111
                      · rw [if_pos, if_pos (by omega)]
                        · rfl
                        · refine ⟨by unfold sgn; simp; omega, ?_⟩
                          unfold encI
                          rw [if_neg (by omega), if_neg (by omega), if_neg (by omega)]
                          congr 1
                          · omega
                          · congr 1
                            · omega
                            · congr 1
                              · omega
                              · congr 1; omega
                      · rw [if_neg, if_neg (by omega)]
                        · rfl
                        · rintro ⟨h1, h⟩
                          unfold sgn at h1
                          simp at h1
                          unfold encI at h
                          split at h
                          · simp at h
                          · split at h
                            · simp at h
                            · split at h
                              · simp at h
                              · omega
                    · rw [if_neg (by omega)]
                      exact bad s 4 3 _ (by omega) z (by rw [← e3]; exact q3)
                  · rw [if_neg (by omega)]
                    exact bad s 4 2 _ (by omega) z (by rw [← e2]; exact q2)
                · rw [if_neg (by omega)]
                  exact bad s 4 1 _ (by omega) z (by rw [← e1]; exact q1)
              · rw [if_neg (by omega)]
                exact j2_lo s 4 _ (by omega)
            · simp only [if_neg (show ¬ (b0 : Int) < 248 by omega)]
              rw [first_bad _ (by omega)]
              exact Ev.now _
end Go.Proofs.YtpjkbamkaicoiaaDoor.RaP
end
