/- glyph's functions at this translation: First, width, plain, Len, Check, Fold: what they return, for every text. -/
import Derived.Test.YtofdiilfedjhkaaDoorUtil
import Derived.Test.YtofdiilfedjhkaaDoorGlyP
import Derived.Deep.QuietTactic
import Derived.BigQuiet
import Derived.LoopTactic
import Derived.Outline
import Derived.Laws.RangeAny
import Derived.Lib.OthersKept
set_option linter.unusedVariables false
set_option linter.unusedSimpArgs false
namespace Go.Proofs.YtofdiilfedjhkaaDoor.Gly
open Go.RowKit GlyP

theorem get_by (s : ByteArray) (i : Nat) : (s.get! i).toNat = by_ s.data.toList i := by
  unfold by_
  rcases Nat.lt_or_ge i s.size with h | h
  · rw [List.getD_eq_getElem?_getD, List.getElem?_eq_getElem (by rw [U.len_data]; exact h)]
    simp [ByteArray.get!, getElem!_pos, h]
  · rw [List.getD_eq_getElem?_getD, List.getElem?_eq_none (by rw [U.len_data]; exact h)]
    have : s.data[i]? = none := Array.getElem?_eq_none (show s.data.size ≤ i from h)
    simp [ByteArray.get!, getElem!_def, this]
    rfl
theorem dec_model (s : ByteArray) : Utf8.decode s 0 = dec s.data.toList := by
  rw [Lib.decode_at, get_by, get_by, get_by, get_by, dec, U.len_data]; rfl

theorem below_iter (w : World) (s : ByteArray) : Below w.heap.size w (w.iter s 0) := (Below.refl _ w).alloc (Nat.le_refl _) _
theorem cut3 (s : ByteArray) (h : 3 ≤ s.size) : ((s.extract 0 3).toList == [239, 191, 189]) = decide (by_ s.data.toList 0 = 239 ∧ by_ s.data.toList 1 = 191 ∧ by_ s.data.toList 2 = 189) := by
  rw [Lib.toList_data, Lib.extract_data]
  have hl := U.len_data s
  revert hl
  generalize s.data.toList = l
  intro hl
  match l, hl with
  | a :: b :: c :: r, _ =>
    rw [Bool.eq_iff_iff]
    simp [by_, ← UInt8.toNat_inj]
  | [], hl => simp at hl; omega
  | [_], hl => simp at hl; omega
  | [_, _], hl => simp at hl; omega
/-- What First gives, as a value. -/
def firstV : Option (Nat × Nat) → Value
  | none => .tuple #[.int .i64 0, .int .i64 0, .int .i64 10]
  | some (c, n) => .tuple #[.int .i64 c, .int .i64 n, .int .i64 0]

/-- Some number, and whether it is a text. -/
def LenPost (b : Bool) (w : World) (e : Ending) (w' : World) : Prop := (∃ n : Int, e = .returned (.tuple #[.int .i64 n, .int .i64 (if b then 0 else 10)])) ∧ Below w.heap.size w w'

/-- A byte without its great letter. -/
def low (c : UInt8) : UInt8 := if 65 ≤ c ∧ c ≤ 90 then c + 32 else c

theorem low_all : ∀ n : Fin 256, if ((n.val : Int) - 65) % 256 < 26 then Go.bits .or .u8 (n.val : Int) 32 = ((low (UInt8.ofNat n.val)).toNat : Int) else low (UInt8.ofNat n.val) = UInt8.ofNat n.val := by decide +kernel
theorem low_yes (c : UInt8) (h : ((c.toNat : Int) - 65) % 256 < 26) : Go.bits .or .u8 (c.toNat : Int) 32 = ((low c).toNat : Int) := by
  have := low_all ⟨c.toNat, c.toNat_lt⟩
  rw [if_pos h] at this
  simpa using this
theorem low_no (c : UInt8) (h : ¬ ((c.toNat : Int) - 65) % 256 < 26) : low c = c := by
  have := low_all ⟨c.toNat, c.toNat_lt⟩
  rw [if_neg h] at this
  simpa using this

set_option maxHeartbeats 1000000 in
theorem Fold_any (s : ByteArray) (hs : s.size ≤ 140737488355328) (w : World) :
    Calls Tryd.prog 26 #[.string s] w fun e w' => e = .returned (.string ⟨(s.data.toList.map low).toArray⟩) ∧ Below w.heap.size w w' := by
  have hcv := fun (w : World) => Lib.run_convert_string_bytes (P := Tryd.prog) w 9 64 5 s Tryd.underlying9 Tryd.underlying64 Tryd.underlying5
  go_enter Tryd.func26, Tryd.ntmps26
  go_wp2
  clear hcv
  go_loopw [10] (fun i wr => ∃ k : Nat, k ≤ s.size ∧ i = .int .i64 k ∧ Hid (U.BytesAt w.heap.size ((s.data.toList.take k).map low ++ s.data.toList.drop k) wr) ∧ Below w.heap.size w wr) (fun i _ => s.size - (intOf i).toNat)
  case atStart => exact ⟨0, by omega, rfl, Lib.hid (U.BytesAt.new w s), U.below_bytesWorld w _ s⟩
  case round =>
    obtain ⟨k, hk, rfl, HB, hbw⟩ := hrel
    have hl : ((s.data.toList.take k).map low ++ s.data.toList.drop k).length = s.size := by
      rw [List.length_append, List.length_map, List.length_take, List.length_drop, U.len_data]; omega
    by_cases hlt : k < s.size
    · have hat := HB.out k (by omega)
      have hg : ((s.data.toList.take k).map low ++ s.data.toList.drop k)[k]'(by omega) = s[k] := by
        rw [List.getElem_append_right (by rw [List.length_map, List.length_take, U.len_data]; omega)]
        simp [U.len_data, Nat.min_eq_left hk]
        rfl
      rw [hg] at hat
      obtain ⟨hc, hf⟩ := hat
      have hnext : (s.data.toList.take (k + 1)).map low ++ s.data.toList.drop (k + 1) = ((s.data.toList.take k).map low ++ s.data.toList.drop k).set k (low s[k]) := by
        rw [List.set_append_right _ _ (by rw [List.length_map, List.length_take, U.len_data]; omega), U.u8_at s k hlt, List.length_map, List.length_take, U.len_data, Nat.min_eq_left hk, Nat.sub_self, List.set_cons_zero,
          List.take_succ_eq_append_getElem (by rw [U.len_data]; exact hlt), List.map_append, List.append_assoc]
        rfl
      have HN := Lib.hid hnext
      have hsame : low s[k] = s[k] → ((s.data.toList.take k).map low ++ s.data.toList.drop k).set k (low s[k]) = (s.data.toList.take k).map low ++ s.data.toList.drop k := by
        intro h; rw [h, ← hg, List.set_getElem_self]
      have HG := Lib.hid hsame
      clear hsame
      clear hg hl hnext
      by_cases hq : ((s[k].toNat : Int) - 65) % 256 < 26
      · have hy := low_yes s[k] hq
        have HY := Lib.hid hy; clear hy
        go_wp2
        go_roundw
        case rel => exact ⟨k + 1, by omega, by go_num, Lib.hid (by rw [HN.out]; exact HB.out.set k _ _ (by rw [HY.out])), hbw.setCell (p := ⟨w.heap.size, k, none⟩) (Nat.le_refl _) _⟩
        case measure => simp [intOf]; omega
      · have hy := low_no s[k] hq
        have HY := Lib.hid hy; clear hy
        go_wp2
        go_roundw
        case rel => exact ⟨k + 1, by omega, by go_num, Lib.hid (by rw [HN.out, HG.out HY.out]; exact HB.out), hbw⟩
        case measure => simp [intOf]; omega
    · have hkk : k = s.size := by omega
      have hB := HB.out
      rw [hkk, ← U.len_data, List.take_length, List.drop_length, List.append_nil] at hB
      have hcv := hB.text (P := Tryd.prog) 64 9 5 (grownCap w s.size 0 5) Tryd.underlying64 Tryd.underlying5 Tryd.underlying9
      rw [List.length_map, U.len_data] at hcv
      clear hB hl hkk HB
      go_wp2
      go_ret
      exact ⟨rfl, hbw⟩

end Go.Proofs.YtofdiilfedjhkaaDoor.Gly
