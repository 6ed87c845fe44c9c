/- The reference's functions of layer 2 at this translation: they return what escape.Escape, Unescape and Is return. -/
import Derived.Test.YtjegeohghefdiaaEscB
import Derived.Test.YtjegeohghefdiaaUtil
set_option linter.unusedVariables false
set_option linter.unusedSimpArgs false
namespace Go.Proofs.Ytjegeohghefdiaa.Esc
open Go.RowKit EscP

def spS : ByteArray := ⟨#[32, 34, 38, 39, 47, 58, 60, 62, 64, 92]⟩
theorem spS_at (k : Nat) (h : k < 10) (h' : k < spS.size) : spS[k] = spB.getD k 0 := by
  match k, h with
  | 0, _ => rfl
  | 1, _ => rfl
  | 2, _ => rfl
  | 3, _ => rfl
  | 4, _ => rfl
  | 5, _ => rfl
  | 6, _ => rfl
  | 7, _ => rfl
  | 8, _ => rfl
  | 9, _ => rfl

theorem rbytes_any (w : World) :
    Calls Try.prog 22 #[] w fun e w' => e = .returned (.string spS) ∧ w = w' := by
  go_enter Try.func22, Try.ntmps22
  go_wp2
  go_ret
  exact ⟨rfl, rfl⟩

def digS : Array Value := #[.string ⟨#[50, 48]⟩, .string ⟨#[50, 50]⟩, .string ⟨#[50, 54]⟩, .string ⟨#[50, 55]⟩, .string ⟨#[50, 102]⟩, .string ⟨#[51, 97]⟩, .string ⟨#[51, 99]⟩, .string ⟨#[51, 101]⟩, .string ⟨#[52, 48]⟩, .string ⟨#[53, 99]⟩]
/-- The digits of the escape of the table's byte k. -/
def dig (k : Nat) : ByteArray := ⟨((seq3 (spB.getD k 0)).drop 1).toArray⟩
theorem digS_at (k : Nat) (h : k < 10) : digS[k]? = some (.string (dig k)) := by
  match k, h with
  | 0, _ => rfl
  | 1, _ => rfl
  | 2, _ => rfl
  | 3, _ => rfl
  | 4, _ => rfl
  | 5, _ => rfl
  | 6, _ => rfl
  | 7, _ => rfl
  | 8, _ => rfl
  | 9, _ => rfl
theorem dig_data (k : Nat) : (dig k).data.toList = (seq3 (spB.getD k 0)).drop 1 := rfl

/-- The digits lie in block g. -/
def HasDigs (g : Nat) (w : World) : Prop := ∀ k, k < 10 → w.cell? ⟨g, k, none⟩ = some (.string (dig k))
theorem digits_any (w : World) :
    Calls Try.prog 24 #[] w fun e w' => ∃ g, e = .returned (.slice (some ⟨g, 0, none⟩) 10 10) ∧ Below w.heap.size w w' ∧ HasDigs g w' := by
  go_enter Try.func24, Try.ntmps24
  go_wp2
  go_ret
  refine ⟨w.heap.size, rfl, (Below.refl _ _).alloc (Nat.le_refl _) _, fun k hk => ?_⟩
  rw [World.cell?_alloc_at _ _ _ _ rfl]
  exact digS_at k hk


/-- The place of the byte for which the escape at the front stands; -1: there is none. -/
def atI (l : List UInt8) : Int := match beg l with | none => -1 | some x => (spB.idxOf x : Int)

theorem beg_head (l : List UInt8) (x : UInt8) (h : beg l = some x) : l.head? = some 92 := by
  have := List.find?_some h
  obtain ⟨r, hr⟩ := isPrefixOf_drop _ _ this
  rw [hr]; rfl
theorem pre_dig (s : ByteArray) (k : Nat) (h3 : 3 ≤ s.size) (h0 : s.data.toList.head? = some 92) :
    (seq3 (spB.getD k 0)).isPrefixOf s.data.toList = ((dig k).toList == (s.extract 1 3).toList) := by
  rw [Lib.toList_data, Lib.toList_data, dig_data, Lib.extract_data]
  have hl := len_data s
  revert h0 hl
  generalize s.data.toList = l
  intro h0 hl
  match l, h0 with
  | a :: l, h0 =>
    obtain rfl : a = 92 := by simpa using h0
    match l, hl with
    | b :: c :: r, _ => simp [seq3, List.isPrefixOf]
    | [], hl => simp at hl; omega
    | [b], hl => simp at hl; omega
theorem idx_of (k : Nat) (h : k < 10) : spB.idxOf (spB.getD k 0) = k := by
  match k, h with
  | 0, _ => rfl
  | 1, _ => rfl
  | 2, _ => rfl
  | 3, _ => rfl
  | 4, _ => rfl
  | 5, _ => rfl
  | 6, _ => rfl
  | 7, _ => rfl
  | 8, _ => rfl
  | 9, _ => rfl

set_option maxHeartbeats 1000000 in
theorem at_any (s : ByteArray) (hs : s.size ≤ 35184372088832) (w : World) :
    Calls Try.prog 23 #[.string s] w fun e w' => e = .returned (.int .i64 (atI s.data.toList)) ∧ Below w.heap.size w w' := by
  by_cases h3 : s.size < 3
  · have ha : atI s.data.toList = -1 := by
      unfold atI
      cases hb : beg s.data.toList with
      | none => rfl
      | some x => have := beg_len _ _ hb; rw [len_data] at this; omega
    have HA := Lib.hid ha; clear ha
    go_enter Try.func23, Try.ntmps23
    go_wp2
    go_ret
    exact ⟨by rw [HA.out]; rfl, Below.refl _ _⟩
  · have h3' : 3 ≤ s.size := by omega
    have hp : 0 < s.size := by omega
    have hh : s.data.toList.head? = some s[0] := by
      rw [List.head?_eq_getElem?, List.getElem?_eq_getElem (by rw [len_data]; omega)]; rfl
    by_cases h92 : (s[0] == 92) = true
    · have hne : ((s[0].toNat : Int) != 92) = false := by
        rw [bne, show ((s[0].toNat : Int) == 92) = (s[0] == 92) from beq_u8 _ 92, h92]; rfl
      have h92' : s[0] = 92 := by simpa using h92
      rw [h92'] at hh
      have HH := Lib.hid hh; clear hh h92 h92'
      go_enter Try.func23, Try.ntmps23
      go_wp2_with fail
      refine (digits_any _).mono ?_
      rintro e w1 ⟨g, rfl, hb, hd⟩
      clear hne
      go_wp2
      go_loopw [4] (fun i wr => ∃ k : Nat, k ≤ 10 ∧ i = .int .i64 k ∧ Hid (beg s.data.toList = begF s.data.toList k) ∧ Hid (HasDigs g wr) ∧ Below w.heap.size w wr) (fun i _ => 10 - (intOf i).toNat)
      case atStart => exact ⟨0, by omega, rfl, Lib.hid rfl, Lib.hid hd, hb⟩
      case round =>
        obtain ⟨k, hk, rfl, H, HD, hbw⟩ := hrel
        clear hd
        by_cases hlt : k < 10
        · have hcell := HD.out k hlt
          obtain ⟨d, hd⟩ : ∃ d, d = dig k := ⟨_, rfl⟩
          rw [← hd] at hcell
          have hpre := pre_dig s k h3' HH.out
          rw [← hd] at hpre
          clear hd
          cases hq : (d.toList == (s.extract 1 3).toList) with
          | true =>
            have HQ := Lib.hid (hpre.trans hq); clear hpre
            go_wp2
            go_quiet (fail)
            go_wp2
            go_ret
            refine ⟨?_, ?_⟩
            · unfold atI
              rw [H.out, begF_step _ _ k hlt rfl, HQ.out]
              simp only [if_true]
              rw [idx_of k hlt]; rfl
            · exact U.below_drewN hbw _
          | false =>
            have HQ := Lib.hid (hpre.trans hq); clear hpre
            go_wp2
            go_quiet (fail)
            go_wp2
            go_roundw
            case rel => exact ⟨k + 1, by omega, by go_num, Lib.hid (by rw [H.out, begF_step _ _ k hlt rfl, HQ.out]; rfl), Lib.hid (fun k hk => HD.out k hk), U.below_drewN hbw _⟩
            case measure => simp [intOf]; omega
        · have h10 : k = 10 := by omega
          have H10 := Lib.hid h10; clear h10
          go_wp2
          go_ret
          exact ⟨by unfold atI; rw [H.out, H10.out]; rfl, hbw⟩
    · have h92' : (s[0] == 92) = false := by simpa using h92
      have hne : ((s[0].toNat : Int) != 92) = true := by
        rw [bne, show ((s[0].toNat : Int) == 92) = (s[0] == 92) from beq_u8 _ 92, h92']; rfl
      have ha : atI s.data.toList = -1 := by
        unfold atI
        cases hb : beg s.data.toList with
        | none => rfl
        | some x => have := beg_head _ _ hb; rw [hh] at this; simp at this; simp [this] at h92'
      have HA := Lib.hid ha; clear ha hh h92 h92'
      go_enter Try.func23, Try.ntmps23
      go_wp2
      go_ret
      exact ⟨by rw [HA.out]; rfl, Below.refl _ _⟩


/-- The last place among the first k of the table where a byte stands; -1: none. -/
def lastHit (c : UInt8) : Nat → Int
  | 0 => -1
  | k + 1 => if spB.getD k 0 = c then (k : Int) else lastHit c k
theorem lastHit_no (c : UInt8) (h : isSp c = false) : lastHit c 9 = -1 := by
  simp [isSp, spB] at h
  simp [lastHit, spB, List.getD]
  simp [h, eq_comm]
theorem lastHit_yes (c : UInt8) (h : isSp c = true) : ∃ k : Nat, k < 9 ∧ lastHit c 9 = (k : Int) ∧ spB.getD k 0 = c := by
  simp [isSp, spB] at h
  rcases h with rfl | rfl | rfl | rfl | rfl | rfl | rfl | rfl | rfl
  · exact ⟨0, by decide, by decide, rfl⟩
  · exact ⟨1, by decide, by decide, rfl⟩
  · exact ⟨2, by decide, by decide, rfl⟩
  · exact ⟨3, by decide, by decide, rfl⟩
  · exact ⟨4, by decide, by decide, rfl⟩
  · exact ⟨5, by decide, by decide, rfl⟩
  · exact ⟨6, by decide, by decide, rfl⟩
  · exact ⟨7, by decide, by decide, rfl⟩
  · exact ⟨8, by decide, by decide, rfl⟩
theorem atI_none (l : List UInt8) (h : beg l = none) : atI l = -1 := by unfold atI; rw [h]
theorem beg_mem (l : List UInt8) (x : UInt8) (h : beg l = some x) : x ∈ spB := by
  unfold beg begF at h
  exact List.mem_of_find?_eq_some h
theorem atI_some (l : List UInt8) (x : UInt8) (h : beg l = some x) : ∃ k : Nat, k < 10 ∧ atI l = (k : Int) ∧ spB.getD k 0 = x := by
  have hm := beg_mem l x h
  have hi : spB.idxOf x < 10 := List.idxOf_lt_length_of_mem hm
  refine ⟨spB.idxOf x, hi, by unfold atI; rw [h], ?_⟩
  rw [List.getD_eq_getElem?_getD, List.getElem?_eq_getElem hi, List.getElem_idxOf hi]; rfl

set_option maxHeartbeats 1000000 in
theorem REscape_bad (s : ByteArray) (hs : s.size ≤ 35184372088832) (hb : bad s.data.toList = true) (w : World) :
    Calls Try.prog 10 #[.string s] w fun e w' => e = .returned (.tuple #[.string ByteArray.empty, .int .i64 20]) ∧ Below w.heap.size w w' := by
  have HB := Lib.hid hb; clear hb
  rcases Nat.eq_zero_or_pos s.size with h0 | hp
  · have h1 : s.toList = [] := U.toList_nil s h0
    clear h0
    go_enter Try.func10, Try.ntmps10
    go_wp2_with fail
    go_ret2; exact ⟨rfl, Below.refl _ _⟩
  · have h1 : s.toList.isEmpty = false := U.isEmpty_false s hp
    go_enter Try.func10, Try.ntmps10
    go_wp2_with fail
    all_goals first
    | (go_ret2; exact ⟨rfl, Below.refl _ _⟩)
    | (exfalso
       have hw : (((s[0]'hp).toNat : Int) == 32) = false ∧ (((s[s.size - 1]'(by omega)).toNat : Int) == 32) = false := by assumption
       have := HB.out
       rw [bad_eq s hp, hw.1, hw.2] at this
       cases this)

set_option maxHeartbeats 2000000 in
theorem REscape_good (s : ByteArray) (hs : s.size ≤ 35184372088832) (hb : bad s.data.toList = false) (w : World) :
    Calls Try.prog 10 #[.string s] w fun e w' => e = .returned (.tuple #[.string ⟨(escG s.data.toList).toArray⟩, .int .i64 0]) ∧ Below w.heap.size w w' := by
  have hp : 0 < s.size := by
    rcases Nat.eq_zero_or_pos s.size with h | h
    · have : s.data.toList = [] := List.eq_nil_of_length_eq_zero (by rw [len_data]; exact h)
      rw [this] at hb; cases hb
    · exact h
  rw [bad_eq s hp, Bool.or_eq_false_iff] at hb
  obtain ⟨hb1, hb2⟩ := hb
  have hb0 : s.toList.isEmpty = false := U.isEmpty_false s hp
  go_enter Try.func10, Try.ntmps10
  go_wp2_with fail
  clear hb0 hb1 hb2
  go_loopw [4, 5] (fun o i wr => ∃ (k : Nat) (acc : ByteArray), k ≤ s.size ∧ o = .string acc ∧ i = .int .i64 k ∧ Below w.heap.size w wr ∧ Hid (acc.data.toList ++ escG (s.data.toList.drop k) = escG s.data.toList) ∧ acc.size ≤ 3 * k) (fun _ i _ => s.size - (intOf i).toNat)
  case atStart =>
    exact ⟨0, ⟨#[]⟩, by omega, rfl, rfl, Below.refl _ w, Lib.hid rfl, by simp [ByteArray.size]⟩
  case round =>
    obtain ⟨k, acc, hk, rfl, rfl, hbw, HA, hal⟩ := hrel
    by_cases hlt : k < s.size
    · go_wp2_with fail
      refine (rbytes_any _).mono ?_
      rintro e w2 ⟨rfl, rfl⟩
      go_wp2_with fail
      obtain ⟨wo, hwo⟩ : ∃ wo : World, wo = wr := ⟨_, rfl⟩
      obtain ⟨c, hc⟩ : ∃ c : UInt8, c = s[k] := ⟨_, rfl⟩
      have HC := Lib.hid hc
      go_loopw [6, 8] (fun q j wr => ∃ (m : Nat) (z : Int), m ≤ 9 ∧ j = .int .i64 m ∧ q = .int .i64 z ∧ Hid (z = lastHit c m) ∧ Below w.heap.size w wr) (fun _ j _ => 9 - (intOf j).toNat)
      case atStart => exact ⟨0, -1, by omega, rfl, rfl, Lib.hid rfl, hbw⟩
      case round =>
        obtain ⟨m, z, hm, rfl, rfl, HZ, hbi⟩ := hrel
        by_cases hm9 : m < 9
        · have hms : m < spS.size := by rw [show spS.size = 10 from rfl]; omega
          have hx := spS_at m (by omega) hms
          have HX := Lib.hid hx; clear hx
          cases hq : (spS[m] == s[k]) with
          | true =>
            have hq2 : ((spS[m].toNat : Int) == (s[k].toNat : Int)) = true := by rw [beq_u8]; exact hq
            have HQ := Lib.hid hq; clear hq
            go_wp2
            go_quiet (fail)
            go_wp2
            go_roundw
            case rel =>
              refine ⟨m + 1, m, by omega, by go_num, rfl, Lib.hid ?_, U.below_drewN hbi _⟩
              have h1 := HQ.out; rw [HX.out, ← HC.out, beq_iff_eq] at h1
              simp only [lastHit]; rw [if_pos h1]
            case measure => simp [intOf]; omega
          | false =>
            have hq2 : ((spS[m].toNat : Int) == (s[k].toNat : Int)) = false := by rw [beq_u8]; exact hq
            have HQ := Lib.hid hq; clear hq
            go_wp2
            go_quiet (fail)
            go_wp2
            go_roundw
            case rel =>
              refine ⟨m + 1, z, by omega, by go_num, rfl, Lib.hid ?_, U.below_drewN hbi _⟩
              have h1 := HQ.out; rw [HX.out, ← HC.out, beq_eq_false_iff_ne] at h1
              simp only [lastHit]; rw [if_neg h1]; exact HZ.out
            case measure => simp [intOf]; omega
        · have hm' : m = 9 := by omega
          have HM := Lib.hid hm'; clear hm'
          have hst := Lib.hid (escG_step s k hlt)
          clear hbw hwo
          go_wp2_with fail
          refine (at_any _ (by rw [ByteArray.size_extract]; omega) _).mono ?_
          rintro e w2 ⟨rfl, hb2⟩
          have hbw2 : Below w.heap.size w w2 := U.below_then hbi hb2
          rw [U.drop_data]
          clear hb2 hbi
          cases ho : beg (s.data.toList.drop k) with
          | some x =>
            obtain ⟨n, hn, hat, hxn⟩ := atI_some _ _ ho
            rw [hat]
            have hseq : seq3 s[k] = [92] ++ (dig 9).data.toList := by
              have h := beg_head _ _ ho
              rw [U.u8_at s k hlt] at h
              have : s[k] = 92 := by simpa using h
              rw [this]; rfl
            have HS := Lib.hid hseq; clear hseq
            have HO := Lib.hid ho; clear ho
            have HAT := Lib.hid hat; clear hat
            clear hxn
            go_wp2_with fail
            refine (digits_any _).mono ?_
            rintro e w3 ⟨g, rfl, hb3, hd⟩
            have hcell := hd 9 (by omega)
            have hds : (dig 9).size ≤ 2 := by decide
            have hbw3 := U.below_then hbw2 hb3
            clear hd hb3 hbw2
            obtain ⟨d, hdd⟩ : ∃ d, d = dig 9 := ⟨_, rfl⟩
            rw [← hdd] at hcell hds HS
            clear hdd
            go_wp2
            go_roundw
            case rel => exact ⟨k + 1, acc ++ ⟨#[92]⟩ ++ d, by omega, rfl, by go_num, hbw3, Lib.hid (by rw [← HA.out, hst.out, HO.out, HS.out]; simp), by simp [ByteArray.size_append, show (⟨#[92]⟩ : ByteArray).size = 1 from rfl]; omega⟩
            case measure => simp [intOf]; omega
          | none =>
            rw [atI_none _ ho]
            have HO := Lib.hid ho; clear ho
            cases hsp : isSp c with
            | true =>
              obtain ⟨n, hn, hla, hxn⟩ := lastHit_yes c hsp
              have hz : z = (n : Int) := by rw [HZ.out, HM.out, hla]
              have hseq : seq3 s[k] = [92] ++ (dig n).data.toList := by
                rw [dig_data, hxn, HC.out]; rfl
              have HS := Lib.hid hseq; clear hseq
              subst hz
              rw [HC.out] at hsp
              have HSP := Lib.hid hsp
              clear hsp hla hxn HZ
              go_wp2_with fail
              refine (digits_any _).mono ?_
              rintro e w3 ⟨g, rfl, hb3, hd⟩
              have hcell := hd n (by omega)
              have hds : (dig n).size ≤ 2 := by rw [← len_data, dig_data]; simp [seq3]
              have hbw3 := U.below_then hbw2 hb3
              clear hd hb3 hbw2
              obtain ⟨d, hdd⟩ : ∃ d, d = dig n := ⟨_, rfl⟩
              rw [← hdd] at hcell hds HS
              clear hdd
              go_wp2
              go_roundw
              case rel => exact ⟨k + 1, acc ++ ⟨#[92]⟩ ++ d, by omega, rfl, by go_num, hbw3, Lib.hid (by rw [← HA.out, hst.out, HO.out, HSP.out, HS.out]; simp), by simp [ByteArray.size_append, show (⟨#[92]⟩ : ByteArray).size = 1 from rfl]; omega⟩
              case measure => simp [intOf]; omega
            | false =>
              have hz : z = -1 := by rw [HZ.out, HM.out, lastHit_no c hsp]
              subst hz
              rw [HC.out] at hsp
              have HSP := Lib.hid hsp
              clear hsp HZ
              have h1s : (s.extract k (k + 1)).size ≤ 1 := by rw [ByteArray.size_extract]; omega
              go_wp2

              go_roundw
              case rel => exact ⟨k + 1, acc ++ s.extract k (k + 1), by omega, rfl, by go_num, hbw2, Lib.hid (by rw [← HA.out, hst.out, HO.out, HSP.out, U.append_data, U.one_data s k hlt]; simp), by simp [ByteArray.size_append]; omega⟩
              case measure => simp [intOf]; omega
    · have hsz := hbw.size
      have hkk : k = s.size := by omega
      have HK := Lib.hid hkk; clear hkk
      go_wp2_with fail
      go_ret2
      refine ⟨?_, hbw⟩
      rw [← HA.out, HK.out, List.drop_eq_nil_of_le (by rw [len_data]; omega)]
      simp [escG]

end Go.Proofs.Ytjegeohghefdiaa.Esc
