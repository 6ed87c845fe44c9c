/- wharfref07: the table, bytes of words. -/
import Derived.Test.YtcgopnknnolhkaaDgH
set_option linter.unusedVariables false
set_option linter.unusedSimpArgs false
namespace Go.Proofs.Ytcgopnknnolhkaa.Dg
open Go.RowKit U
theorem table_any (w : World) : Calls Try.prog 19 #[] w fun e w' => e = .returned (.slice (some ⟨w.heap.size, 0, none⟩) 64 64) ∧ w' = w.alloc (.cells kcells 28) := by
  go_enter Try.func19, Try.ntmps19
  refine wp_seq ?_
  refine wp_region_lit ?_
  refine wpList_run rfl (v := .slice none 0 0) (w' := w) (by kernel_rfl) ?_
  refine wpList_nil ?_
  refine wp_seq ?_
  refine wp_region_lit ?_
  refine wpList_run rfl (v := .slice (some ⟨w.heap.size, 0, none⟩) 64 64) (w' := w.alloc (.cells kcells 28)) (by kernel_rfl) ?_
  refine wpList_run rfl (v := .slice (some ⟨w.heap.size, 0, none⟩) 64 64) (w' := w.alloc (.cells kcells 28)) (by kernel_rfl) ?_
  refine wpList_nil ?_
  refine wp_ret ?_
  exact bodyPost_ret (results_tmp rfl _ _ _) rfl ⟨rfl, rfl⟩
theorem kat_new (w : World) : KAt w.heap.size (w.alloc (.cells kcells 28)) := fun i hi => by
  refine (At.new w 28 kcells).cell i _ ?_
  unfold kcells sin
  have hl : SINES.length = 64 := rfl
  rw [List.getElem?_toArray, List.getElem?_map, List.getElem?_eq_getElem (by omega), List.getD_eq_getElem?_getD, List.getElem?_eq_getElem (by omega)]
  rfl
def bytes4 (least : Bool) (x : UInt32) : List UInt8 := if least then (be4 x).reverse else be4 x
theorem bytes4_at (least : Bool) (x : UInt32) (k : Nat) (hk : k < 4) : (bytes4 least x).take (k + 1) = (bytes4 least x).take k ++ [(x >>> UInt32.ofNat (8 * (if least then k else 3 - k))).toUInt8] := by
  have h0 : x >>> (0 : UInt32) = x := by apply UInt32.toNat_inj.1; rw [UInt32.toNat_shiftRight]; rfl
  match k, hk with
  | 0, _ => cases least <;> simp [bytes4, be4, h0]
  | 1, _ => cases least <;> simp [bytes4, be4, h0]
  | 2, _ => cases least <;> simp [bytes4, be4, h0]
  | 3, _ => cases least <;> simp [bytes4, be4, h0]
theorem bytes4_len (least : Bool) (x : UInt32) : (bytes4 least x).length = 4 := by cases least <;> rfl
/-- The bytes of the first i words. -/
def flatB (least : Bool) (ws : List UInt32) (i : Nat) : List UInt8 := ((ws.take i).map (bytes4 least)).flatten
theorem flatB_next (least : Bool) (ws : List UInt32) (i : Nat) (h : i < ws.length) : flatB least ws (i + 1) = flatB least ws i ++ bytes4 least ws[i] := by
  unfold flatB
  rw [List.take_succ_eq_append_getElem h, List.map_append, List.flatten_append]; simp
theorem flatB_len (least : Bool) (ws : List UInt32) : ∀ i, i ≤ ws.length → (flatB least ws i).length = 4 * i
  | 0, _ => rfl
  | i + 1, h => by rw [flatB_next least ws i (by omega), List.length_append, flatB_len least ws i (by omega), bytes4_len]; omega
set_option maxRecDepth 100000 in
set_option maxHeartbeats 2000000 in
theorem rbytes_any (least : Bool) (ws : List UInt32) (hN : ws.length ≤ 5) (hN1 : 1 ≤ ws.length) {g cp : Nat} {w : World} (hW : ∀ i x, ws[i]? = some x → w.cell? ⟨g, i, none⟩ = some (.int .u32 (u x))) :
    Calls Try.prog 24 #[.slice (some ⟨g, 0, none⟩) ws.length cp, .bool least] w fun e w' => e = .returned (.string ⟨(flatB least ws ws.length).toArray⟩) ∧ Below w.heap.size w w' := by
  have HW := Lib.hid hW
  clear hW
  obtain ⟨N, hn⟩ : ∃ N, N = ws.length := ⟨_, rfl⟩
  rw [← hn] at hN hN1 ⊢
  have HN := Lib.hid hn
  clear hn
  obtain ⟨i0, hi, hz0, hz1, hz2⟩ := info_parts infoU8
  go_enter Try.func24, Try.ntmps24
  go_wp2
  go_loopw [5, 6] (fun v i wq => ∃ k : Nat, k ≤ N ∧ i = .int .i64 k ∧ Hid (Soft wq w.heap.size v (4 * k) (bv (flatB least ws k)) ∧ Below w.heap.size w wq)) (fun _ i _ => N - (intOf i).toNat)
  case atStart => exact ⟨0, by omega, rfl, Lib.hid ⟨Soft.nil _ _, Below.refl _ _⟩⟩
  case round =>
    obtain ⟨k, hk, rfl, HS⟩ := hrel
    by_cases hlt : k < N
    · have hkl : k < ws.length := by rw [← HN.out]; exact hlt
      obtain ⟨X, hX⟩ : ∃ X, X = ws[k] := ⟨_, rfl⟩
      have HXW : Hid (w.cell? ⟨g, k, none⟩ = some (.int .u32 (u X))) := Lib.hid (HW.out k X (by rw [hX]; exact List.getElem?_eq_getElem hkl))
      have HFN : Hid (flatB least ws (k + 1) = flatB least ws k ++ bytes4 least X) := Lib.hid (by rw [hX]; exact flatB_next least ws k hkl)
      have HFL : Hid ((flatB least ws k).length = 4 * k) := Lib.hid (flatB_len least ws k (by omega))
      have HS0 : Hid (Soft wr w.heap.size u5 (4 * k + 0) (bv (flatB least ws k ++ (bytes4 least X).take 0)) ∧ Below w.heap.size w wr) := Lib.hid (by rw [List.take_zero, List.append_nil]; exact HS.out)
      clear hX hkl
      go_wp2
      go_loopw [5, 7] (fun v i wq => ∃ j : Nat, j ≤ 4 ∧ i = .int .i64 j ∧ Hid (Soft wq w.heap.size v (4 * k + j) (bv (flatB least ws k ++ (bytes4 least X).take j)) ∧ Below w.heap.size w wq)) (fun _ i _ => 4 - (intOf i).toNat)
      case atStart => exact ⟨0, by omega, rfl, HS0⟩
      case round =>
        obtain ⟨j, hj, rfl, HS2⟩ := hrel
        by_cases hj4 : j < 4
        · obtain ⟨q, hq⟩ : ∃ q, q = (if least then j else 3 - j) := ⟨_, rfl⟩
          have hq3 : q < 4 := by rw [hq]; split <;> omega
          have HB : Hid (u X / (2 : Int) ^ (8 * q) % (256 : Int) = (((X >>> UInt32.ofNat (8 * q)).toUInt8).toNat : Int)) := Lib.hid (bAt X (8 * q) (by omega))
          have HNX : Hid (bv (flatB least ws k ++ (bytes4 least X).take (j + 1)) = bv (flatB least ws k ++ (bytes4 least X).take j) ++ [.int .u8 (u X / 2 ^ (8 * q) % 256)]) := Lib.hid (by
            rw [bytes4_at least X j hj4, ← List.append_assoc, bv_append, ← hq, HB.out]; rfl)
          have cx := (U.bcell HS2.out.2).1 g k (World.block_lt_of_cell? w _ HXW.out)
          rw [HXW.out] at cx
          have h7 := HS2.out.1.below ((Below.refl wr.heap.size wr).alloc (Nat.le_refl _) (.cells #[.int .u8 (u X / 2 ^ (8 * q) % 256)] 5))
          have HC := Lib.hid (lit_cells wr [.int .u8 (u X / 2 ^ (8 * q) % 256)] 5)
          have hsz := HS2.out.2.size
          have HB7 := Lib.hid (HS2.out.2.alloc (show w.heap.size ≤ wr.heap.size by omega) (.cells #[.int .u8 (u X / 2 ^ (8 * q) % 256)] 5))
          have H7 := Lib.hid h7
          cases least with
          | true =>
            have hqj : q = j := by rw [hq]; rfl
            subst hqj
            clear hq
            go_wp2_with (at_builtin; refine wpList_append_soft _ rfl _ _ 33 rfl w.heap.size 5 i0 (.int .u8 0) 1 Try.underlying33 hi hz0 hz1 hz2 rfl _ _ _ rfl h7 ⟨wr.heap.size, 0, none⟩ 1 1 [.int .u8 (u X / 2 ^ (8 * q) % 256)] rfl rfl ?c1 ?c2 ?c3 ?c4 ?c5 ?_)
            case c1 => exact HC.out
            case c2 =>
              intro z hz
              rw [List.mem_singleton] at hz
              rw [hz]; rfl
            case c3 => simp only [maxLen]; omega
            case c4 => omega
            case c5 => simp; omega
            intro v' w6 hown' hgrow
            have HB6 := Lib.hid (grown_below HB7.out H7.out hgrow)
            rw [← HNX.out] at hown'
            have HO6 := Lib.hid hown'
            clear hown' hgrow h7 cx
            go_wp2
            go_roundw
            case rel => exact ⟨q + 1, by omega, by go_num, Lib.hid ⟨HO6.out, HB6.out⟩⟩
            case measure => simp [intOf]; omega
          | false =>
            have hqj : (3 : Int) - (j : Int) = (q : Int) := by rw [hq]; simp; omega
            clear hq
            go_wp2_with (at_builtin; refine wpList_append_soft _ rfl _ _ 33 rfl w.heap.size 5 i0 (.int .u8 0) 1 Try.underlying33 hi hz0 hz1 hz2 rfl _ _ _ rfl h7 ⟨wr.heap.size, 0, none⟩ 1 1 [.int .u8 (u X / 2 ^ (8 * q) % 256)] rfl rfl ?c1 ?c2 ?c3 ?c4 ?c5 ?_)
            case c1 => exact HC.out
            case c2 =>
              intro z hz
              rw [List.mem_singleton] at hz
              rw [hz]; rfl
            case c3 => simp only [maxLen]; omega
            case c4 => omega
            case c5 => simp; omega
            intro v' w6 hown' hgrow
            have HB6 := Lib.hid (grown_below HB7.out H7.out hgrow)
            rw [← HNX.out] at hown'
            have HO6 := Lib.hid hown'
            clear hown' hgrow h7 cx hqj
            go_wp2
            go_roundw
            case rel => exact ⟨j + 1, by omega, by go_num, Lib.hid ⟨HO6.out, HB6.out⟩⟩
            case measure => simp [intOf]; omega
        · have hj44 : j = 4 := by omega
          have HS3 : Hid (Soft wr w.heap.size u5 (4 * (k + 1)) (bv (flatB least ws (k + 1))) ∧ Below w.heap.size w wr) := Lib.hid (by
            have := HS2.out
            rw [hj44, List.take_of_length_le (by rw [bytes4_len]; exact Nat.le_refl _), ← HFN.out] at this
            exact this)
          go_wp2
          go_roundw
          case rel => exact ⟨k + 1, by omega, by go_num, HS3⟩
          case measure => simp [intOf]; omega
    · have hkk : k = N := by omega
      subst hkk
      obtain ⟨g5, cp5, rfl, hg5⟩ := HS.out.1.form (by omega)
      have hl : (flatB least ws k).length = 4 * k := flatB_len least ws k (by have := HN.out; omega)
      have hcv := run_convert_bytes_back (P := Try.prog) wr 33 9 5 ⟨g5, 0, none⟩ cp5 (flatB least ws k) Try.underlying33 Try.underlying5 Try.underlying9 (fun j hj => by
        rw [addz]
        exact HS.out.1.cellAt j _ (bv_at _ j hj))
      rw [hl] at hcv
      go_wp2
      go_ret
      exact ⟨rfl, HS.out.2⟩
end Go.Proofs.Ytcgopnknnolhkaa.Dg
