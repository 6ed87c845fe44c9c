/- The reference's Unescape and Is, and escape.Is, at this translation. -/
import Derived.Test.YtjegeohghefdiaaEscC
set_option linter.unusedVariables false
set_option linter.unusedSimpArgs false
namespace Go.Proofs.Ytjegeohghefdiaa.Esc
open Go.RowKit EscP

theorem spB_zero (n : Nat) (hn : n < 10) (x : UInt8) (h : spB.getD n 0 = x) : (x == 32) = ((n : Int) == 0) := by
  subst h
  match n, hn with
  | 0, _ => rfl
  | 1, _ => rfl
  | 2, _ => rfl
  | 3, _ => rfl
  | 4, _ => rfl
  | 5, _ => rfl
  | 6, _ => rfl
  | 7, _ => rfl
  | 8, _ => rfl
  | 9, _ => rfl
theorem spS_cut (n : Nat) (hn : n < 10) (x : UInt8) (h : spB.getD n 0 = x) : (spS.extract n (n + 1)).data.toList = [x] := by
  rw [U.one_data spS n (by rw [show spS.size = 10 from rfl]; exact hn), spS_at n hn, h]

set_option maxHeartbeats 2000000 in
theorem RUnescape_any (s : ByteArray) (hs : s.size ≤ 35184372088832) (w : World) :
    Calls Try.prog 13 #[.string s] w fun e w' => e = .returned (.string ⟨(un s.data.toList).toArray⟩) ∧ Below w.heap.size w w' := by
  go_enter Try.func13, Try.ntmps13
  go_wp2_with fail
  refine (rbytes_any _).mono ?_
  rintro e w2 ⟨rfl, rfl⟩
  go_wp2_with fail
  go_loopw [3, 5] (fun o i wr => ∃ (k f : Nat) (acc : ByteArray), k ≤ s.size ∧ o = .string acc ∧ i = .int .i64 k ∧ Below w.heap.size w wr ∧ Hid (acc.data.toList ++ unG f (k == 0) (s.data.toList.drop k) = un s.data.toList) ∧ acc.size ≤ k ∧ s.size ≤ k + f) (fun _ i _ => s.size - (intOf i).toNat)
  case atStart =>
    exact ⟨0, s.size, ⟨#[]⟩, by omega, rfl, rfl, Below.refl _ w, Lib.hid (by rw [un, len_data]; rfl), by simp [ByteArray.size], by omega⟩
  case round =>
    obtain ⟨k, f, acc, hk, rfl, rfl, hbw, HA, hal, hf⟩ := hrel
    by_cases hlt : k < s.size
    · obtain ⟨f, rfl⟩ : ∃ g, f = g + 1 := ⟨f - 1, by omega⟩
      have h1s : (s.extract k (k + 1)).size ≤ 1 := by rw [ByteArray.size_extract]; omega
      go_wp2_with fail
      refine (at_any _ (by rw [ByteArray.size_extract]; omega) _).mono ?_
      rintro e w2 ⟨rfl, hb2⟩
      have hbw2 := U.below_then hbw hb2
      clear hb2 hbw
      rw [U.drop_data]
      cases ho : beg (s.data.toList.drop k) with
      | none =>
        rw [atI_none _ ho]
        have hm := Lib.hid (unG_miss s k f (k == 0) hlt (by intro x hx; rw [ho] at hx; cases hx))
        clear ho
        go_wp2
        go_roundw
        case rel => exact ⟨k + 1, f, acc ++ s.extract k (k + 1), by omega, rfl, by go_num, hbw2, Lib.hid (by rw [← HA.out, hm.out, U.append_data, U.one_data s k hlt]; simp), by simp [ByteArray.size_append]; omega, by omega⟩
        case measure => simp [intOf]; omega
      | some x =>
        obtain ⟨n, hn, hat, hxn⟩ := atI_some _ _ ho
        rw [hat]
        have h3 : k + 3 ≤ s.size := by
          have := beg_len _ x ho
          rw [List.length_drop, len_data] at this; omega
        have hz := spB_zero n hn x hxn
        have HXN := Lib.hid hxn
        have HAT := Lib.hid hat
        clear hat hxn
        have hns : (spS.extract n (n + 1)).size ≤ 1 := by rw [ByteArray.size_extract]; omega
        have hn2 : n + 1 ≤ spS.size := by rw [show spS.size = 10 from rfl]; omega
        cases hx : (x == 32) with
        | true =>
          rw [hx] at hz
          have hz2 := hz.symm
          have hn0 : n = 0 := by simpa using hz2
          subst hn0
          clear hz hz2
          by_cases hc : 0 < k ∧ k + 3 < s.size
          · obtain ⟨h0, hc⟩ := hc
            have hm := Lib.hid (unG_hit s k f (k == 0) hlt x ho (by simp; omega))
            have HX := Lib.hid hx; clear hx ho
            have hk0 : ((k : Int) == 0) = false := by simp; omega
            have hk3 : ((k : Int) + 3 == (s.size : Int)) = false := by simp; omega
            go_wp2
            go_roundw
            case rel => exact ⟨k + 3, f, acc ++ spS.extract 0 1, by omega, rfl, by go_num, hbw2, Lib.hid (by rw [← HA.out, hm.out, U.append_data, spS_cut 0 hn x HXN.out]; simp), by simp [ByteArray.size_append]; omega, by omega⟩
            case measure => simp [intOf]; omega
          · have hm := Lib.hid (unG_miss s k f (k == 0) hlt (by
              intro y hy; rw [ho] at hy; cases hy
              rw [bne, hx]; simp; omega))
            have HX := Lib.hid hx; clear hx ho
            by_cases h0 : k = 0
            · subst h0
              clear hc
              go_wp2
              go_roundw
              case rel => exact ⟨0 + 1, f, acc ++ s.extract 0 (0 + 1), by omega, rfl, by go_num, hbw2, Lib.hid (by rw [← HA.out, hm.out, U.append_data, U.one_data s 0 hlt]; simp), by simp [ByteArray.size_append]; omega, by omega⟩
              case measure => simp [intOf]; omega
            · have hk0 : ((k : Int) == 0) = false := by simp; omega
              have hk3 : ((k : Int) + 3 == (s.size : Int)) = true := by simp; omega
              clear hc h0
              go_wp2
              go_roundw
              case rel => exact ⟨k + 1, f, acc ++ s.extract k (k + 1), by omega, rfl, by go_num, hbw2, Lib.hid (by rw [← HA.out, hm.out, U.append_data, U.one_data s k hlt]; simp), by simp [ByteArray.size_append]; omega, by omega⟩
              case measure => simp [intOf]; omega
        | false =>
          rw [hx] at hz
          have hz2 := hz.symm
          clear hz
          have hm := Lib.hid (unG_hit s k f (k == 0) hlt x ho (by rw [bne, hx]; rfl))
          have HX := Lib.hid hx; clear hx ho
          go_wp2
          go_roundw
          case rel => exact ⟨k + 3, f, acc ++ spS.extract n (n + 1), by omega, rfl, by go_num, hbw2, Lib.hid (by rw [← HA.out, hm.out, U.append_data, spS_cut n hn x HXN.out]; simp), by simp [ByteArray.size_append]; omega, by omega⟩
          case measure => simp [intOf]; omega
    · have hkk : k = s.size := by omega
      have HK := Lib.hid hkk; clear hkk
      go_wp2
      go_ret
      refine ⟨?_, hbw⟩
      rw [← HA.out, HK.out, List.drop_eq_nil_of_le (by rw [len_data]; omega)]
      cases f <;> simp [unG]


/-- May the text be in an address? -/
def isOk (l : List UInt8) : Bool := !(l.any isSp) && (!l.isEmpty && (!((seq3 32).isPrefixOf l) && !((seq3 32).isSuffixOf l)))

theorem hasSuffix (s p : ByteArray) (hs : s.size ≤ 35184372088832) (l : List UInt8) (hp : p.data.toList = l) (w : World) :
    Calls Try.prog 26 #[.string s, .string p] w fun e w' => e = .returned (.bool (l.isSuffixOf s.data.toList)) ∧ w = w' := by
  subst hp
  exact (Try.strings_HasSuffix s p w (by omega)).mono fun e w' ⟨h1, h2⟩ => ⟨h1, h2.symm⟩
theorem any_step (s : ByteArray) (k : Nat) (h : k < s.size) : (s.data.toList.drop k).any isSp = (isSp s[k] || (s.data.toList.drop (k + 1)).any isSp) := by
  rw [U.u8_at s k h]; rfl
theorem data_isEmpty (s : ByteArray) (h : 0 < s.size) : s.data.toList.isEmpty = false := by rw [← Lib.toList_data]; exact U.isEmpty_false s h

set_option maxHeartbeats 2000000 in
theorem Is_any (s : ByteArray) (hs : s.size ≤ 35184372088832) (w : World) :
    Calls Try.prog 14 #[.string s] w fun e w' => e = .returned (.bool (isOk s.data.toList)) ∧ Below w.heap.size w w' := by
  go_enter Try.func14, Try.ntmps14
  go_wp2_with fail
  go_loopw [6] (fun i wr => ∃ (k : Nat), k ≤ s.size ∧ i = .int .i64 k ∧ Below w.heap.size w wr ∧ Hid (s.data.toList.any isSp = (s.data.toList.drop k).any isSp)) (fun i _ => s.size - (intOf i).toNat)
  case atStart => exact ⟨0, by omega, rfl, Below.refl _ w, Lib.hid rfl⟩
  case round =>
    obtain ⟨k, hk, rfl, hbw, HA⟩ := hrel
    by_cases hlt : k < s.size
    · have hst := Lib.hid (any_step s k hlt)
      go_wp2_with fail
      refine (isSpecial_any _ _).mono ?_
      rintro e w2 ⟨rfl, hb2⟩
      have hbw2 := U.below_then hbw hb2
      clear hb2 hbw
      cases hsp : isSp s[k] with
      | true =>
        have HS := Lib.hid hsp; clear hsp
        go_wp2
        go_ret
        exact ⟨by rw [isOk, HA.out, hst.out, HS.out]; rfl, hbw2⟩
      | false =>
        have HS := Lib.hid hsp; clear hsp
        go_wp2
        go_round
        case rel => exact ⟨k + 1, by omega, by go_num, hbw2, Lib.hid (by rw [HA.out, hst.out, HS.out]; rfl)⟩
        case measure => simp [intOf]; omega
    · have hkk : k = s.size := by omega
      have hno : s.data.toList.any isSp = false := by rw [HA.out, hkk, List.drop_eq_nil_of_le (by rw [len_data]; omega)]; rfl
      have HN := Lib.hid hno; clear hno hkk
      rcases Nat.eq_zero_or_pos s.size with h0 | hp
      · have h1 : s.toList = [] := U.toList_nil s h0
        have h2 : s.data.toList = [] := by rw [← Lib.toList_data]; exact h1
        have H2 := Lib.hid h2; clear h2
        have H0 := Lib.hid h0; clear h0
        go_wp2
        go_ret
        exact ⟨by rw [H2.out]; rfl, hbw⟩
      · have h1 : s.toList.isEmpty = false := U.isEmpty_false s hp
        have H1 := Lib.hid (data_isEmpty s hp)
        go_wp2_with fail
        refine (sequence_any 32 _).mono ?_
        rintro e w2 ⟨rfl, hb2⟩
        have hbw2 := U.below_then hbw hb2
        clear hb2 hbw
        go_wp2_with fail
        refine (hasPrefix s _ (seq3 32) (by simp) _).mono ?_
        rintro e w3 ⟨rfl, rfl⟩
        cases hq : (seq3 32).isPrefixOf s.data.toList with
        | true =>
          have HQ := Lib.hid hq; clear hq
          go_wp2
          go_ret
          exact ⟨by rw [isOk, HN.out, H1.out, HQ.out]; rfl, hbw2⟩
        | false =>
          have HQ := Lib.hid hq; clear hq
          go_wp2_with fail
          refine (sequence_any 32 _).mono ?_
          rintro e w3 ⟨rfl, hb2⟩
          have hbw3 := U.below_then hbw2 hb2
          clear hb2 hbw2
          go_wp2_with fail
          refine (hasSuffix s _ hs (seq3 32) (by simp) _).mono ?_
          rintro e w4 ⟨rfl, rfl⟩
          go_wp2
          go_ret
          exact ⟨by rw [isOk, HN.out, H1.out, HQ.out]; simp, hbw3⟩

theorem atI_zero (l : List UInt8) : (atI l == 0) = (seq3 32).isPrefixOf l := by
  have h0 := begF_step l 32 0 (by decide) rfl
  cases hq : (seq3 32).isPrefixOf l with
  | true =>
    rw [hq] at h0; simp only [if_true] at h0
    have : beg l = some 32 := h0
    unfold atI; rw [this]; rfl
  | false =>
    cases ho : beg l with
    | none => rw [atI_none _ ho]; rfl
    | some x =>
      obtain ⟨n, hn, hat, hxn⟩ := atI_some _ _ ho
      rw [hat, ← spB_zero n hn x hxn]
      rw [beq_eq_false_iff_ne]
      intro hx
      subst hx
      have := List.find?_some ho
      rw [hq] at this; cases this
theorem suffix_drop (s : ByteArray) (h : 3 ≤ s.size) : (seq3 32).isPrefixOf (s.data.toList.drop (s.size - 3)) = (seq3 32).isSuffixOf s.data.toList := by
  rw [Bool.eq_iff_iff, List.isPrefixOf_iff_prefix, List.isSuffixOf_iff_suffix]
  have hl : (s.data.toList.drop (s.size - 3)).length = 3 := by rw [List.length_drop, len_data]; omega
  constructor
  · intro hp
    have := hp.eq_of_length (by rw [hl]; rfl)
    rw [this]; exact List.drop_suffix _ _
  · intro hp
    have := List.suffix_iff_eq_drop.1 hp
    rw [len_data, seq3_len] at this
    rw [← this]
    exact List.prefix_rfl
theorem short_no (l : List UInt8) (h : l.length < 3) : (seq3 32).isPrefixOf l = false ∧ (seq3 32).isSuffixOf l = false := by
  constructor
  · rw [Bool.eq_false_iff]; intro hp
    have := (List.isPrefixOf_iff_prefix.1 hp).length_le
    rw [seq3_len] at this; omega
  · rw [Bool.eq_false_iff]; intro hp
    have := (List.isSuffixOf_iff_suffix.1 hp).length_le
    rw [seq3_len] at this; omega

set_option maxHeartbeats 4000000 in
theorem RIs_any (s : ByteArray) (hs : s.size ≤ 35184372088832) (w : World) :
    Calls Try.prog 15 #[.string s] w fun e w' => e = .returned (.bool (isOk s.data.toList)) ∧ Below w.heap.size w w' := by
  go_enter Try.func15, Try.ntmps15
  go_wp2_with fail
  refine (rbytes_any _).mono ?_
  rintro e w2 ⟨rfl, rfl⟩
  go_wp2_with fail
  go_loopw [4] (fun i wr => ∃ (k : Nat), k ≤ s.size ∧ i = .int .i64 k ∧ Below w.heap.size w wr ∧ Hid (s.data.toList.any isSp = (s.data.toList.drop k).any isSp)) (fun i _ => s.size - (intOf i).toNat)
  case atStart => exact ⟨0, by omega, rfl, Below.refl _ w, Lib.hid rfl⟩
  case round =>
    obtain ⟨k, hk, rfl, hbw, HA⟩ := hrel
    by_cases hlt : k < s.size
    · have hst := Lib.hid (any_step s k hlt)
      obtain ⟨c, hc⟩ : ∃ c : UInt8, c = s[k] := ⟨_, rfl⟩
      have HC := Lib.hid hc
      obtain ⟨wo, hwo⟩ : ∃ wo : World, wo = wr := ⟨_, rfl⟩
      go_wp2_with fail
      go_loopw [5] (fun j wr => ∃ (m : Nat), m ≤ 9 ∧ j = .int .i64 m ∧ Hid (isSp c = ((spB.drop m).take (9 - m)).contains c) ∧ Below w.heap.size w wr) (fun j _ => 9 - (intOf j).toNat)
      case atStart => exact ⟨0, by omega, rfl, Lib.hid rfl, hbw⟩
      case round =>
        obtain ⟨m, hm, rfl, HZ, hbi⟩ := hrel
        clear hbw hwo
        by_cases hm9 : m < 9
        · have hms : m < spS.size := by rw [show spS.size = 10 from rfl]; omega
          have hx := spS_at m (by omega) hms
          have hstep := Lib.hid (isSp_step c spS[m] m hm9 hx)
          clear hx
          cases hq : (s[k] == spS[m]) with
          | true =>
            have hq2 : ((s[k].toNat : Int) == (spS[m].toNat : Int)) = true := by rw [beq_u8]; exact hq
            have HQ := Lib.hid hq; clear hq
            go_wp2
            go_quiet (fail)
            go_wp2
            go_ret
            refine ⟨?_, U.below_drewN hbi _⟩
            have h1 := HQ.out
            rw [← HC.out] at h1
            have h2 : isSp c = true := by rw [HZ.out, hstep.out, Bool.beq_comm, h1]; rfl
            rw [isOk, HA.out, hst.out, ← HC.out, h2]; rfl
          | false =>
            have hq2 : ((s[k].toNat : Int) == (spS[m].toNat : Int)) = false := by rw [beq_u8]; exact hq
            have HQ := Lib.hid hq; clear hq
            go_wp2
            go_quiet (fail)
            go_wp2
            go_roundw
            case rel =>
              refine ⟨m + 1, by omega, by go_num, Lib.hid ?_, U.below_drewN hbi _⟩
              have h1 := HQ.out
              rw [← HC.out] at h1
              rw [HZ.out, hstep.out, Bool.beq_comm, h1]; rfl
            case measure => simp [intOf]; omega
        · have hm' : m = 9 := by omega
          have hsp : isSp s[k] = false := by rw [← hc, HZ.out, hm']; rfl
          have HS := Lib.hid hsp; clear hsp hm' hc
          go_wp2
          go_roundw
          case rel => exact ⟨k + 1, by omega, by go_num, hbi, Lib.hid (by rw [HA.out, hst.out, HS.out]; rfl)⟩
          case measure => simp [intOf]; omega
    · have hkk : k = s.size := by omega
      have hno : s.data.toList.any isSp = false := by rw [HA.out, hkk, List.drop_eq_nil_of_le (by rw [len_data]; omega)]; rfl
      have HN := Lib.hid hno; clear hno hkk
      rcases Nat.eq_zero_or_pos s.size with h0 | hp
      · have h1 : s.toList = [] := U.toList_nil s h0
        have h2 : s.data.toList = [] := by rw [← Lib.toList_data]; exact h1
        have H2 := Lib.hid h2; clear h2
        have H0 := Lib.hid h0; clear h0
        go_wp2
        go_ret
        exact ⟨by rw [H2.out]; rfl, hbw⟩
      · have h1 : s.toList.isEmpty = false := U.isEmpty_false s hp
        have H1 := Lib.hid (data_isEmpty s hp)
        go_wp2_with fail
        refine (at_any s hs _).mono ?_
        rintro e w2 ⟨rfl, hb2⟩
        have hbw2 := U.below_then hbw hb2
        clear hb2 hbw
        have hz := atI_zero s.data.toList
        obtain ⟨z, hzz⟩ : ∃ z, z = atI s.data.toList := ⟨_, rfl⟩
        rw [← hzz] at hz ⊢
        clear hzz
        cases hq : (seq3 32).isPrefixOf s.data.toList with
        | true =>
          rw [hq] at hz
          have hzn : (z != 0) = false := by rw [bne, hz]; rfl
          have HQ := Lib.hid hq; clear hq
          clear hz
          go_wp2
          go_ret
          exact ⟨by rw [isOk, HN.out, H1.out, HQ.out]; rfl, hbw2⟩
        | false =>
          rw [hq] at hz
          have hzn : (z != 0) = true := by rw [bne, hz]; rfl
          have HQ := Lib.hid hq; clear hq
          clear hz
          by_cases h3 : s.size < 3
          · have hsh := Lib.hid (short_no s.data.toList (by rw [len_data]; exact h3))
            go_wp2
            go_ret
            exact ⟨by rw [isOk, HN.out, H1.out, HQ.out, hsh.out.2]; rfl, hbw2⟩
          · go_wp2_with fail
            refine (at_any _ (by rw [ByteArray.size_extract]; omega) _).mono ?_
            rintro e w3 ⟨rfl, hb3⟩
            have hbw3 := U.below_then hbw2 hb3
            clear hb3 hbw2
            rw [U.drop_data]
            have hz := atI_zero (s.data.toList.drop (s.size - 3))
            rw [suffix_drop s (by omega)] at hz
            obtain ⟨y, hy⟩ : ∃ y, y = atI (s.data.toList.drop (s.size - 3)) := ⟨_, rfl⟩
            rw [← hy] at hz ⊢
            clear hy
            have HZ := Lib.hid hz; clear hz
            go_wp2
            go_ret
            exact ⟨by rw [isOk, HN.out, H1.out, HQ.out, ← HZ.out]; show Ending.returned (Value.bool (decide ((s.size : Int) < 3) || y != 0)) = _; rw [decide_eq_false (by omega)]; rfl, hbw3⟩

end Go.Proofs.Ytjegeohghefdiaa.Esc
