/- Contracts of functions of this translation, and what they come to; what is not used is left out. -/
import Derived.Test.YtpjkbamkaicoiaaDoorPGlyA
import Derived.Test.YtpjkbamkaicoiaaDoorPGlyP
import Derived.Test.YtpjkbamkaicoiaaDoorPUtil

section
/- wharfref01 at this translation: Fold. -/
set_option linter.unusedVariables false
set_option linter.unusedSimpArgs false
namespace Go.Proofs.YtpjkbamkaicoiaaDoor.Gly
open Go.RowKit GlyP

theorem ref_no (c : UInt8) (h : (c.toNat : Int) < 65 ∨ (90 : Int) < (c.toNat : Int)) : low c = c := by
  unfold low
  rw [if_neg]
  rw [UInt8.le_iff_toNat_le, UInt8.le_iff_toNat_le]
  simp; omega
theorem ref_yes (c : UInt8) (h1 : (65 : Int) ≤ (c.toNat : Int)) (h2 : (c.toNat : Int) ≤ 90) : (((low c).toNat : Nat) : Int) = (c.toNat : Int) + 32 := by
  unfold low
  rw [if_pos]
  · rw [UInt8.toNat_add]; simp; omega
  · rw [UInt8.le_iff_toNat_le, UInt8.le_iff_toNat_le]
    simp; omega

set_option maxHeartbeats 1000000 in
theorem RFold_any (s : ByteArray) (hs : s.size ≤ 140737488355328) (w : World) :
    Calls Tryd.prog 69 #[.string s] w fun e w' => e = .returned (.string ⟨(s.data.toList.map low).toArray⟩) ∧ Below w.heap.size w w' := by
  have hcv := fun (w : World) => Lib.run_convert_string_bytes (P := Tryd.prog) w 9 79 5 s Tryd.underlying9 Tryd.underlying79 Tryd.underlying5
  go_enter Tryd.func69, Tryd.ntmps69
  go_wp2
  clear hcv
  go_loopw [4] (fun i wr => ∃ k : Nat, k ≤ s.size ∧ i = .int .i64 k ∧ Hid (U.BytesAt w.heap.size ((s.data.toList.take k).map low ++ s.data.toList.drop k) wr) ∧ Below w.heap.size w wr) (fun i _ => s.size - (intOf i).toNat)
  case atStart => exact ⟨0, by omega, rfl, Lib.hid (U.BytesAt.new w s), U.below_bytesWorld w _ s⟩
  case round =>
    obtain ⟨k, hk, rfl, HB, hbw⟩ := hrel
    have hl : ((s.data.toList.take k).map low ++ s.data.toList.drop k).length = s.size := by
      rw [List.length_append, List.length_map, List.length_take, List.length_drop, U.len_data]; omega
    by_cases hlt : k < s.size
    · have hat := HB.out k (by omega)
      have hg : ((s.data.toList.take k).map low ++ s.data.toList.drop k)[k]'(by omega) = s[k] := by
        rw [List.getElem_append_right (by rw [List.length_map, List.length_take, U.len_data]; omega)]
        simp [U.len_data, Nat.min_eq_left hk]
        rfl
      rw [hg] at hat
      obtain ⟨hc, hf⟩ := hat
      have hnext : (s.data.toList.take (k + 1)).map low ++ s.data.toList.drop (k + 1) = ((s.data.toList.take k).map low ++ s.data.toList.drop k).set k (low s[k]) := by
        rw [List.set_append_right _ _ (by rw [List.length_map, List.length_take, U.len_data]; omega), U.u8_at s k hlt, List.length_map, List.length_take, U.len_data, Nat.min_eq_left hk, Nat.sub_self, List.set_cons_zero,
          List.take_succ_eq_append_getElem (by rw [U.len_data]; exact hlt), List.map_append, List.append_assoc]
        rfl
      have HN := Lib.hid hnext
      have hsame : low s[k] = s[k] → ((s.data.toList.take k).map low ++ s.data.toList.drop k).set k (low s[k]) = (s.data.toList.take k).map low ++ s.data.toList.drop k := by
        intro h; rw [h, ← hg, List.set_getElem_self]
      have HG := Lib.hid hsame
      clear hsame
      clear hg hl hnext
      obtain ⟨x, hx⟩ : ∃ x : Int, x = (s[k].toNat : Int) := ⟨_, rfl⟩
      by_cases h1 : x < 65
      · have HY := Lib.hid (ref_no s[k] (.inl (hx ▸ h1)))
        rw [hx] at h1
        clear hx
        go_wp2
        go_roundw
        case rel => exact ⟨k + 1, by omega, by go_num, Lib.hid (by rw [HN.out, HG.out HY.out]; exact HB.out), hbw⟩
        case measure => simp [intOf]; omega
      · by_cases h2 : 90 < x
        · have HY := Lib.hid (ref_no s[k] (.inr (hx ▸ h2)))
          rw [hx] at h1 h2
          clear hx
          go_wp2
          go_roundw
          case rel => exact ⟨k + 1, by omega, by go_num, Lib.hid (by rw [HN.out, HG.out HY.out]; exact HB.out), hbw⟩
          case measure => simp [intOf]; omega
        · have HY := Lib.hid (ref_yes s[k] (by omega) (by omega))
          rw [hx] at h1 h2
          clear hx
          go_wp2
          go_roundw
          case rel => exact ⟨k + 1, by omega, by go_num, Lib.hid (by rw [HN.out]; exact HB.out.set k _ _ (by rw [HY.out])), hbw.setCell (p := ⟨w.heap.size, k, none⟩) (Nat.le_refl _) _⟩
          case measure => simp [intOf]; omega
    · have hkk : k = s.size := by omega
      have hB := HB.out
      rw [hkk, ← U.len_data, List.take_length, List.drop_length, List.append_nil] at hB
      have hcv := hB.text (P := Tryd.prog) 79 9 5 (grownCap w s.size 0 5) Tryd.underlying79 Tryd.underlying5 Tryd.underlying9
      rw [List.length_map, U.len_data] at hcv
      clear hB hl hkk HB
      go_wp2
      go_ret
      exact ⟨rfl, hbw⟩

end Go.Proofs.YtpjkbamkaicoiaaDoor.Gly
end
