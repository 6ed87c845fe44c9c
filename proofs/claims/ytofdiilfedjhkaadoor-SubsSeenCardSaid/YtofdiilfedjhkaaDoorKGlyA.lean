/- Contracts of functions of this translation, and what they come to; what is not used is left out. -/
import Derived.Deep.QuietTactic
import Derived.BigQuiet
import Derived.LoopTactic
import Derived.Outline
import Derived.Laws.RangeAny
import Derived.Lib.OthersKept
import Derived.Test.YtofdiilfedjhkaaDoorKGlyP
import Derived.Test.YtofdiilfedjhkaaDoorKUtil

section
/- glyph's functions at this translation: First, width, plain, Len, Check, Fold: what they return, for every text. -/
set_option linter.unusedVariables false
set_option linter.unusedSimpArgs false
namespace Go.Proofs.YtofdiilfedjhkaaDoor.Gly
open Go.RowKit GlyP

/-- A byte without its great letter. -/
def low (c : UInt8) : UInt8 := if 65 ≤ c ∧ c ≤ 90 then c + 32 else c

theorem low_all : ∀ n : Fin 256, if ((n.val : Int) - 65) % 256 < 26 then Go.bits .or .u8 (n.val : Int) 32 = ((low (UInt8.ofNat n.val)).toNat : Int) else low (UInt8.ofNat n.val) = UInt8.ofNat n.val := by decide +kernel
theorem low_yes (c : UInt8) (h : ((c.toNat : Int) - 65) % 256 < 26) : Go.bits .or .u8 (c.toNat : Int) 32 = ((low c).toNat : Int) := by
  have := low_all ⟨c.toNat, c.toNat_lt⟩
  rw [if_pos h] at this
  simpa using this
theorem low_no (c : UInt8) (h : ¬ ((c.toNat : Int) - 65) % 256 < 26) : low c = c := by
  have := low_all ⟨c.toNat, c.toNat_lt⟩
  rw [if_neg h] at this
  simpa using this

set_option maxHeartbeats 1000000 in
theorem Fold_any (s : ByteArray) (hs : s.size ≤ 140737488355328) (w : World) :
    Calls Tryd.prog 26 #[.string s] w fun e w' => e = .returned (.string ⟨(s.data.toList.map low).toArray⟩) ∧ Below w.heap.size w w' := by
  have hcv := fun (w : World) => Lib.run_convert_string_bytes (P := Tryd.prog) w 9 64 5 s Tryd.underlying9 Tryd.underlying64 Tryd.underlying5
  go_enter Tryd.func26, Tryd.ntmps26
  go_wp2
  clear hcv
  go_loopw [10] (fun i wr => ∃ k : Nat, k ≤ s.size ∧ i = .int .i64 k ∧ Hid (U.BytesAt w.heap.size ((s.data.toList.take k).map low ++ s.data.toList.drop k) wr) ∧ Below w.heap.size w wr) (fun i _ => s.size - (intOf i).toNat)
  case atStart => exact ⟨0, by omega, rfl, Lib.hid (U.BytesAt.new w s), U.below_bytesWorld w _ s⟩
  case round =>
    obtain ⟨k, hk, rfl, HB, hbw⟩ := hrel
    have hl : ((s.data.toList.take k).map low ++ s.data.toList.drop k).length = s.size := by
      rw [List.length_append, List.length_map, List.length_take, List.length_drop, U.len_data]; omega
    by_cases hlt : k < s.size
    · have hat := HB.out k (by omega)
      have hg : ((s.data.toList.take k).map low ++ s.data.toList.drop k)[k]'(by omega) = s[k] := by
        rw [List.getElem_append_right (by rw [List.length_map, List.length_take, U.len_data]; omega)]
        simp [U.len_data, Nat.min_eq_left hk]
        rfl
      rw [hg] at hat
      obtain ⟨hc, hf⟩ := hat
      have hnext : (s.data.toList.take (k + 1)).map low ++ s.data.toList.drop (k + 1) = ((s.data.toList.take k).map low ++ s.data.toList.drop k).set k (low s[k]) := by
        rw [List.set_append_right _ _ (by rw [List.length_map, List.length_take, U.len_data]; omega), U.u8_at s k hlt, List.length_map, List.length_take, U.len_data, Nat.min_eq_left hk, Nat.sub_self, List.set_cons_zero,
          List.take_succ_eq_append_getElem (by rw [U.len_data]; exact hlt), List.map_append, List.append_assoc]
        rfl
      have HN := Lib.hid hnext
      have hsame : low s[k] = s[k] → ((s.data.toList.take k).map low ++ s.data.toList.drop k).set k (low s[k]) = (s.data.toList.take k).map low ++ s.data.toList.drop k := by
        intro h; rw [h, ← hg, List.set_getElem_self]
      have HG := Lib.hid hsame
      clear hsame
      clear hg hl hnext
      by_cases hq : ((s[k].toNat : Int) - 65) % 256 < 26
      · have hy := low_yes s[k] hq
        have HY := Lib.hid hy; clear hy
        go_wp2
        go_roundw
        case rel => exact ⟨k + 1, by omega, by go_num, Lib.hid (by rw [HN.out]; exact HB.out.set k _ _ (by rw [HY.out])), hbw.setCell (p := ⟨w.heap.size, k, none⟩) (Nat.le_refl _) _⟩
        case measure => simp [intOf]; omega
      · have hy := low_no s[k] hq
        have HY := Lib.hid hy; clear hy
        go_wp2
        go_roundw
        case rel => exact ⟨k + 1, by omega, by go_num, Lib.hid (by rw [HN.out, HG.out HY.out]; exact HB.out), hbw⟩
        case measure => simp [intOf]; omega
    · have hkk : k = s.size := by omega
      have hB := HB.out
      rw [hkk, ← U.len_data, List.take_length, List.drop_length, List.append_nil] at hB
      have hcv := hB.text (P := Tryd.prog) 64 9 5 (grownCap w s.size 0 5) Tryd.underlying64 Tryd.underlying5 Tryd.underlying9
      rw [List.length_map, U.len_data] at hcv
      clear hB hl hkk HB
      go_wp2
      go_ret
      exact ⟨rfl, hbw⟩

end Go.Proofs.YtofdiilfedjhkaaDoor.Gly
end
