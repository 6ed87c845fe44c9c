/- escape.Escape and escape.Unescape at this translation: what they return, for every text of at most 2^45 bytes. -/
import Derived.Test.YtjegeohghefdiaaEscA
set_option linter.unusedVariables false
set_option linter.unusedSimpArgs false
namespace Go.Proofs.Ytjegeohghefdiaa.Esc
open Go.RowKit EscP

theorem u8_at (s : ByteArray) (k : Nat) (h : k < s.size) : s.data.toList.drop k = s[k] :: s.data.toList.drop (k + 1) := by
  rw [List.drop_eq_getElem_cons (by simpa using h)]; rfl
theorem len_data (s : ByteArray) : s.data.toList.length = s.size := by rw [Array.length_toList]; rfl
theorem drop_data (s : ByteArray) (k : Nat) : (s.extract k s.size).data.toList = s.data.toList.drop k := by
  rw [Lib.extract_data, ← len_data s, ← List.drop_take, List.take_length]
theorem eq32 (c : UInt8) : ((c.toNat : Int) == 32) = (c == 32) := beq_u8 c 32
theorem bad_eq (s : ByteArray) (h : 0 < s.size) : bad s.data.toList = (((s[0]'h).toNat : Int) == 32 || ((s[s.size - 1]'(by omega)).toNat : Int) == 32) := by
  have hl := len_data s
  have h1 : s.data.toList.head? = some (s[0]'h) := by
    rw [List.head?_eq_getElem?, List.getElem?_eq_getElem (by omega)]; rfl
  have h2 : s.data.toList.getLast? = some (s[s.size - 1]'(by omega)) := by
    rw [List.getLast?_eq_getElem?, List.getElem?_eq_getElem (by omega)]; simp [hl]; rfl
  have h3 : s.data.toList.isEmpty = false := by
    rw [List.isEmpty_eq_false_iff]; intro hn; rw [hn] at hl; simp at hl; omega
  unfold bad
  rw [h1, h2, h3, eq32, eq32]
  simp

set_option maxHeartbeats 1000000 in
theorem Escape_bad (s : ByteArray) (hs : s.size ≤ 35184372088832) (hb : bad s.data.toList = true) (w : World) :
    Calls Try.prog 9 #[.string s] w fun e w' => e = .returned (.tuple #[.string ByteArray.empty, .int .i64 20]) ∧ Below w.heap.size w w' := by
  have HB := Lib.hid hb; clear hb
  rcases Nat.eq_zero_or_pos s.size with h0 | hp
  · have h1 : s.toList = [] := List.eq_nil_of_length_eq_zero (by rw [Lib.toList_data, len_data]; exact h0)
    clear h0
    go_enter Try.func9, Try.ntmps9
    go_wp2_with fail
    go_ret2; exact ⟨rfl, Below.refl _ _⟩
  · have h1 : s.toList.isEmpty = false := by
      rw [List.isEmpty_eq_false_iff]; intro hn
      have : s.toList.length = s.size := by rw [Lib.toList_data]; exact len_data s
      rw [hn] at this; simp at this; omega
    go_enter Try.func9, Try.ntmps9
    go_wp2_with fail
    all_goals first
    | (go_ret2; exact ⟨rfl, Below.refl _ _⟩)
    | (exfalso
       have hw : (((s[0]'hp).toNat : Int) == 32) = false ∧ (((s[s.size - 1]'(by omega)).toNat : Int) == 32) = false := by assumption
       have := HB.out
       rw [bad_eq s hp, hw.1, hw.2] at this
       cases this)
    | skip
    go_ways

theorem escG_step (s : ByteArray) (k : Nat) (h : k < s.size) :
    escG (s.data.toList.drop k) = (if (beg (s.data.toList.drop k)).isSome || isSp s[k] then seq3 s[k] else [s[k]]) ++ escG (s.data.toList.drop (k + 1)) := by
  rw [u8_at s k h]; rfl

set_option maxHeartbeats 2000000 in
theorem Escape_good (s : ByteArray) (hs : s.size ≤ 35184372088832) (hb : bad s.data.toList = false) (w : World) :
    Calls Try.prog 9 #[.string s] w fun e w' => e = .returned (.tuple #[.string ⟨(escG s.data.toList).toArray⟩, .int .i64 0]) ∧ Below w.heap.size w w' := by
  have hp : 0 < s.size := by
    rcases Nat.eq_zero_or_pos s.size with h | h
    · have : s.data.toList = [] := List.eq_nil_of_length_eq_zero (by rw [len_data]; exact h)
      rw [this] at hb; cases hb
    · exact h
  rw [bad_eq s hp, Bool.or_eq_false_iff] at hb
  obtain ⟨hb1, hb2⟩ := hb
  have hb0 : s.toList.isEmpty = false := by
    rw [List.isEmpty_eq_false_iff]; intro hn
    have : s.toList.length = s.size := by rw [Lib.toList_data]; exact len_data s
    rw [hn] at this; simp at this; omega
  go_enter Try.func9, Try.ntmps9
  go_wp2_with fail
  clear hb0 hb1 hb2
  go_loopw [25] (fun i wr => ∃ (k : Nat) (acc : List UInt8), k ≤ s.size ∧ i = .int .i64 k ∧ Hid (Bld.Is w.heap.size w.heap.size (Lib.byteCells acc) wr) ∧ Below w.heap.size w wr ∧ Hid (acc ++ escG (s.data.toList.drop k) = escG s.data.toList) ∧ acc.length ≤ 3 * k) (fun i _ => s.size - (intOf i).toNat)
  case atStart =>
    exact ⟨0, [], by omega, rfl, Lib.hid (Lib.IsBuilderF.of (Lib.fresh_isBuilder _ _ w)), (Below.refl _ w).alloc (Nat.le_refl _) _, Lib.hid rfl, by simp⟩
  case round =>
    obtain ⟨k, acc, hk, rfl, HI, hbw, HA, hal⟩ := hrel
    by_cases hlt : k < s.size
    · go_wp2_with fail
      refine (begins_any _ _).mono ?_
      rintro e w2 ⟨rfl, hb2⟩
      have hI2 := HI.out.below hb2
      have hsz : w.heap.size ≤ wr.heap.size := hbw.size
      have hbw2 : Below w.heap.size w w2 := hbw.trans (hb2.mono hsz)
      have HI2 := Lib.hid hI2; clear hI2 HI hb2
      rw [drop_data]
      obtain ⟨o, ho⟩ : ∃ o, o = beg (s.data.toList.drop k) := ⟨_, rfl⟩
      rw [← ho]
      have HO := Lib.hid ho; clear ho
      have hst := Lib.hid (escG_step s k hlt)
      cases hq : o.isSome with
      | true =>
        have HQ := Lib.hid hq; clear hq
        obtain ⟨x, hx⟩ : ∃ x : Int, x = ((o.getD 0).toNat : Int) := ⟨_, rfl⟩
        rw [show begV o = .tuple #[.int .u8 x, .bool true] from by rw [hx, ← HQ.out]; rfl]
        clear hx
        go_wp2_with fail
        refine (sequence_any _ _).mono ?_
        rintro e w3 ⟨rfl, hb3⟩
        have hI3 := HI2.out.below hb3
        have hsz2 : w.heap.size ≤ w2.heap.size := hbw2.size
        have hbw3 : Below w.heap.size w w3 := hbw2.trans (hb3.mono hsz2)
        have hsz3 := hbw3.size
        have HI3 := Lib.hid hI3; clear hI3 HI2 hb3
        go_wp2_with fail
        refine (Bld.put_str _ _ acc (seq3 s[k]) _ (by simp) _ HI3.out (by simp [seq3_len]; omega) hsz3).mono ?_
        rintro e w4 ⟨rfl, hI4, hb4, _⟩
        have HI4 := Lib.hid hI4; clear hI4 HI3
        go_wp2
        go_roundw
        case rel => exact ⟨k + 1, acc ++ seq3 s[k], by omega, by go_num, HI4, hbw3.trans hb4, Lib.hid (by rw [← HA.out, hst.out, HO.out.symm, HQ.out]; simp), by simp [seq3_len]; omega⟩
        case measure => simp [intOf]; omega
      | false =>
        have HQ := Lib.hid hq; clear hq
        obtain ⟨x, hx⟩ : ∃ x : Int, x = ((o.getD 0).toNat : Int) := ⟨_, rfl⟩
        rw [show begV o = .tuple #[.int .u8 x, .bool false] from by rw [hx, ← HQ.out]; rfl]
        clear hx
        go_wp2_with fail
        refine (isSpecial_any _ _).mono ?_
        rintro e w3 ⟨rfl, hb3⟩
        have hI3 := HI2.out.below hb3
        have hsz2 : w.heap.size ≤ w2.heap.size := hbw2.size
        have hbw3 : Below w.heap.size w w3 := hbw2.trans (hb3.mono hsz2)
        have hsz3 := hbw3.size
        have HI3 := Lib.hid hI3; clear hI3 HI2 hb3
        cases hsp : isSp s[k] with
        | true =>
          have HSP := Lib.hid hsp; clear hsp
          go_wp2_with fail
          refine (sequence_any _ _).mono ?_
          rintro e w4 ⟨rfl, hb4⟩
          have hI4 := HI3.out.below hb4
          have hbw4 : Below w.heap.size w w4 := hbw3.trans (hb4.mono hsz3)
          have hsz4 := hbw4.size
          have HI4 := Lib.hid hI4; clear hI4 HI3 hb4
          go_wp2_with fail
          refine (Bld.put_str _ _ acc (seq3 s[k]) _ (by simp) _ HI4.out (by simp [seq3_len]; omega) hsz4).mono ?_
          rintro e w5 ⟨rfl, hI5, hb5, _⟩
          have HI5 := Lib.hid hI5; clear hI5 HI4
          go_wp2
          go_roundw
          case rel => exact ⟨k + 1, acc ++ seq3 s[k], by omega, by go_num, HI5, hbw4.trans hb5, Lib.hid (by rw [← HA.out, hst.out, HO.out.symm, HQ.out, HSP.out]; simp), by simp [seq3_len]; omega⟩
          case measure => simp [intOf]; omega
        | false =>
          have HSP := Lib.hid hsp; clear hsp
          go_wp2_with fail
          refine (Bld.put_byte _ _ acc s[k] _ rfl _ HI3.out (by omega) hsz3).mono ?_
          rintro e w5 ⟨rfl, hI5, hb5, _⟩
          have HI5 := Lib.hid hI5; clear hI5 HI3
          go_wp2
          go_roundw
          case rel => exact ⟨k + 1, acc ++ [s[k]], by omega, by go_num, HI5, hbw3.trans hb5, Lib.hid (by rw [← HA.out, hst.out, HO.out.symm, HQ.out, HSP.out]; simp), by simp; omega⟩
          case measure => simp [intOf]; omega
    · have hsz := hbw.size
      have hkk : k = s.size := by omega
      have HK := Lib.hid hkk; clear hkk
      go_wp2_with fail
      refine (Bld.text _ _ acc _ HI.out hsz).mono ?_
      rintro e w2 ⟨rfl, hb2⟩
      go_wp2
      go_ret2
      refine ⟨?_, hbw.trans hb2⟩
      rw [← HA.out, HK.out, List.drop_eq_nil_of_le (by rw [len_data]; omega)]
      simp [escG]

theorem isPrefixOf_drop (a l : List UInt8) (h : a.isPrefixOf l = true) : ∃ r, l = a ++ r := by
  rw [List.isPrefixOf_iff_prefix] at h
  obtain ⟨r, hr⟩ := h
  exact ⟨r, hr.symm⟩
/-- Where an escape begins there are three bytes. -/
theorem beg_len (l : List UInt8) (x : UInt8) (h : beg l = some x) : 3 ≤ l.length := by
  have := List.find?_some h
  obtain ⟨r, hr⟩ := isPrefixOf_drop _ _ this
  rw [hr, List.length_append, seq3_len]; omega
theorem unG_hit (s : ByteArray) (k f : Nat) (st : Bool) (hk : k < s.size) (x : UInt8) (h : beg (s.data.toList.drop k) = some x) (hc : (x != 32 || (!st && decide (k + 3 < s.size))) = true) :
    unG (f + 1) st (s.data.toList.drop k) = x :: unG f false (s.data.toList.drop (k + 3)) := by
  have hl : (s.data.toList.drop (k + 1)).length + 1 = s.size - k := by rw [List.length_drop, len_data]; omega
  rw [u8_at s k hk] at h ⊢
  simp only [unG, h]
  rw [List.length_cons, hl, show decide (3 < s.size - k) = decide (k + 3 < s.size) from by rw [decide_eq_decide]; omega, if_pos hc, List.drop_drop, show k + 1 + 2 = k + 3 by omega]
theorem unG_miss (s : ByteArray) (k f : Nat) (st : Bool) (hk : k < s.size) (h : ∀ x, beg (s.data.toList.drop k) = some x → (x != 32 || (!st && decide (k + 3 < s.size))) = false) :
    unG (f + 1) st (s.data.toList.drop k) = s[k] :: unG f false (s.data.toList.drop (k + 1)) := by
  have hl : (s.data.toList.drop (k + 1)).length + 1 = s.size - k := by rw [List.length_drop, len_data]; omega
  rw [u8_at s k hk] at h ⊢
  cases hb : beg (s[k] :: s.data.toList.drop (k + 1)) with
  | none => simp only [unG, hb]
  | some x =>
    have := h x hb
    simp only [unG, hb]
    rw [List.length_cons, hl, show decide (3 < s.size - k) = decide (k + 3 < s.size) from by rw [decide_eq_decide]; omega, this]; rfl

set_option maxHeartbeats 2000000 in
theorem Unescape_any (s : ByteArray) (hs : s.size ≤ 35184372088832) (w : World) :
    Calls Try.prog 12 #[.string s] w fun e w' => e = .returned (.string ⟨(un s.data.toList).toArray⟩) ∧ Below w.heap.size w w' := by
  go_enter Try.func12, Try.ntmps12
  go_wp2_with fail
  go_loopw [4] (fun i wr => ∃ (k f : Nat) (acc : List UInt8), k ≤ s.size ∧ i = .int .i64 k ∧ Hid (Bld.Is w.heap.size w.heap.size (Lib.byteCells acc) wr) ∧ Below w.heap.size w wr ∧ Hid (acc ++ unG f (k == 0) (s.data.toList.drop k) = un s.data.toList) ∧ acc.length ≤ k ∧ s.size ≤ k + f) (fun i _ => s.size - (intOf i).toNat)
  case atStart =>
    exact ⟨0, s.size, [], by omega, rfl, Lib.hid (Bld.fresh w), (Below.refl _ w).alloc (Nat.le_refl _) _, Lib.hid (by rw [un, len_data]; rfl), by simp, by omega⟩
  case round =>
    obtain ⟨k, f, acc, hk, rfl, HI, hbw, HA, hal, hf⟩ := hrel
    by_cases hlt : k < s.size
    · obtain ⟨f, rfl⟩ : ∃ g, f = g + 1 := ⟨f - 1, by omega⟩
      go_wp2_with fail
      refine (begins_any _ _).mono ?_
      rintro e w2 ⟨rfl, hb2⟩
      have hI2 := HI.out.below hb2
      have hsz : w.heap.size ≤ wr.heap.size := hbw.size
      have hbw2 : Below w.heap.size w w2 := hbw.trans (hb2.mono hsz)
      have hsz2 := hbw2.size
      have HI2 := Lib.hid hI2; clear hI2 HI hb2
      rw [drop_data]
      obtain ⟨o, ho⟩ : ∃ o, o = beg (s.data.toList.drop k) := ⟨_, rfl⟩
      rw [← ho]
      cases o with
      | none =>
        have hm := Lib.hid (unG_miss s k f (k == 0) hlt (by intro x hx; rw [← ho] at hx; cases hx))
        clear ho
        rw [show begV none = .tuple #[.int .u8 0, .bool false] from rfl]
        go_wp2_with fail
        refine (Bld.put_byte _ _ acc s[k] _ rfl _ HI2.out (by omega) hsz2).mono ?_
        rintro e w5 ⟨rfl, hI5, hb5, _⟩
        have HI5 := Lib.hid hI5; clear hI5 HI2
        go_wp2
        go_roundw
        case rel => exact ⟨k + 1, f, acc ++ [s[k]], by omega, by go_num, HI5, hbw2.trans hb5, Lib.hid (by rw [← HA.out, hm.out]; simp), by simp; omega, by omega⟩
        case measure => simp [intOf]; omega
      | some x =>
        have h3 : k + 3 ≤ s.size := by
          have := beg_len _ x ho.symm
          rw [List.length_drop, len_data] at this; omega
        have HO := Lib.hid ho; clear ho
        rw [show begV (some x) = .tuple #[.int .u8 (x.toNat : Int), .bool true] from rfl]
        by_cases hx : (x == 32) = true
        · have hne : ((x.toNat : Int) != 32) = false := by rw [bne, eq32, hx]; rfl
          by_cases hc : 0 < k ∧ k + 3 < s.size
          · obtain ⟨h0, hc⟩ := hc
            have hm := Lib.hid (unG_hit s k f (k == 0) hlt x HO.out.symm (by simp; omega))
            have HX := Lib.hid hx; clear hx
            go_wp2_with fail
            refine (Bld.put_byte _ _ acc x _ rfl _ HI2.out (by omega) hsz2).mono ?_
            rintro e w5 ⟨rfl, hI5, hb5, _⟩
            have HI5 := Lib.hid hI5; clear hI5 HI2
            go_wp2
            go_roundw
            case rel => exact ⟨k + 3, f, acc ++ [x], by omega, by go_num, HI5, hbw2.trans hb5, Lib.hid (by rw [← HA.out, hm.out]; simp), by simp; omega, by omega⟩
            case measure => simp [intOf]; omega
          · have hm := Lib.hid (unG_miss s k f (k == 0) hlt (by
              intro y hy; rw [← HO.out] at hy; cases hy
              rw [bne, hx]; simp; omega))
            have HX := Lib.hid hx; clear hx
            by_cases h0 : 0 < k
            · have hc' : ¬ (k + 3 < s.size) := fun h => hc ⟨h0, h⟩
              clear hc
              go_wp2_with fail
              refine (Bld.put_byte _ _ acc s[k] _ rfl _ HI2.out (by omega) hsz2).mono ?_
              rintro e w5 ⟨rfl, hI5, hb5, _⟩
              have HI5 := Lib.hid hI5; clear hI5 HI2
              go_wp2
              go_roundw
              case rel => exact ⟨k + 1, f, acc ++ [s[k]], by omega, by go_num, HI5, hbw2.trans hb5, Lib.hid (by rw [← HA.out, hm.out]; simp), by simp; omega, by omega⟩
              case measure => simp [intOf]; omega
            · clear hc
              go_wp2_with fail
              refine (Bld.put_byte _ _ acc s[k] _ rfl _ HI2.out (by omega) hsz2).mono ?_
              rintro e w5 ⟨rfl, hI5, hb5, _⟩
              have HI5 := Lib.hid hI5; clear hI5 HI2
              go_wp2
              go_roundw
              case rel => exact ⟨k + 1, f, acc ++ [s[k]], by omega, by go_num, HI5, hbw2.trans hb5, Lib.hid (by rw [← HA.out, hm.out]; simp), by simp; omega, by omega⟩
              case measure => simp [intOf]; omega
        · have hx' : (x == 32) = false := by simpa using hx
          clear hx
          have hne : ((x.toNat : Int) != 32) = true := by rw [bne, eq32, hx']; rfl
          have hm := Lib.hid (unG_hit s k f (k == 0) hlt x HO.out.symm (by rw [bne, hx']; rfl))
          have HX := Lib.hid hx'; clear hx'
          go_wp2_with fail
          refine (Bld.put_byte _ _ acc x _ rfl _ HI2.out (by omega) hsz2).mono ?_
          rintro e w5 ⟨rfl, hI5, hb5, _⟩
          have HI5 := Lib.hid hI5; clear hI5 HI2
          go_wp2
          go_roundw
          case rel => exact ⟨k + 3, f, acc ++ [x], by omega, by go_num, HI5, hbw2.trans hb5, Lib.hid (by rw [← HA.out, hm.out]; simp), by simp; omega, by omega⟩
          case measure => simp [intOf]; omega
    · have hsz := hbw.size
      have hkk : k = s.size := by omega
      have HK := Lib.hid hkk; clear hkk
      go_wp2_with fail
      refine (Bld.text _ _ acc _ HI.out hsz).mono ?_
      rintro e w2 ⟨rfl, hb2⟩
      go_wp2
      go_ret
      refine ⟨?_, hbw.trans hb2⟩
      rw [← HA.out, HK.out, List.drop_eq_nil_of_le (by rw [len_data]; omega)]
      cases f <;> simp [unG]
end Go.Proofs.Ytjegeohghefdiaa.Esc
