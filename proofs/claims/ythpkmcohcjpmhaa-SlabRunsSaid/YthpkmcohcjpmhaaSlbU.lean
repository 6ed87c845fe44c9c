/- wharfref21's slab: Read, Arm, Mend, Write. -/
import Derived.Test.YthpkmcohcjpmhaaSlbR
set_option linter.unusedVariables false
set_option linter.unusedSimpArgs false
namespace Go.Proofs.Ythpkmcohcjpmhaa.Slb
open Go.RowKit U
variable {w w' w0 : World} {s : S} {base rS : Nat} {v : Value}
abbrev PR (rS : Nat) : Value := .pointer (some ⟨rS, 0, none⟩)
theorem rset {s' : S} (h : RIs base rS v s w) (j : Nat) (x : Value) (hx : (rcells v s).set j x = rcells v s') (hb : s'.bs = s.bs) : RIs base rS v s' (w.setCell ⟨rS, j, none⟩ x) :=
  RIs.put j x h.hs (by rw [hb]; exact h.hr) hx (by rw [hb]; exact h.len)
theorem rBelow {j : Nat} {x : Value} (h : RIs base rS v s w) : Below base w (w.setCell ⟨rS, j, none⟩ x) := (Below.refl base w).setCell (p := ⟨rS, j, none⟩) h.base_le.1 x
theorem RArm_any (h : RIs base rS v s w) (a k : Int) : Calls Try.prog 16 #[PR rS, .int .i64 a, .int .i64 k] w fun e w' => e = .returned (.tuple #[]) ∧ RIs base rS v { s with after := max a (-1), keep := k } w' ∧ Below base w w' := by
  have c1 := h.c1
  have c2 := h.c2
  have f1 := h.fz 1
  have f2 := h.fz 2
  have key : ∀ A K : Int, RIs base rS v { s with after := A, keep := K } ((w.setCell ⟨rS, 1, none⟩ (.int .i64 A)).setCell ⟨rS, 2, none⟩ (.int .i64 K)) ∧ Below base w ((w.setCell ⟨rS, 1, none⟩ (.int .i64 A)).setCell ⟨rS, 2, none⟩ (.int .i64 K)) := fun A K => by
    have h1 : RIs base rS v { s with after := A } (w.setCell ⟨rS, 1, none⟩ (.int .i64 A)) := rset h 1 _ rfl rfl
    exact ⟨rset h1 2 _ rfl rfl, (rBelow h).trans (rBelow h1)⟩
  have HK := Lib.hid key
  clear key h
  obtain ⟨A, hA⟩ : ∃ A, A = max a (-1) := ⟨_, rfl⟩
  rw [← hA]
  have HA := Lib.hid hA
  clear hA
  go_enter Try.func16, Try.ntmps16
  go_wp2
  all_goals
    first
      | (have e1 : A = -1 := by (have := HA.out; omega)
         subst e1)
      | (have e1 : A = a := by (have := HA.out; omega)
         subst e1)
    go_end0
    exact ⟨rfl, (HK.out _ _).1, (HK.out _ _).2⟩
theorem RMend_any (h : RIs base rS v s w) : Calls Try.prog 18 #[PR rS] w fun e w' => e = .returned (.tuple #[]) ∧ RIs base rS v { s with after := -1, dead := false } w' ∧ Below base w w' := by
  have c1 := h.c1
  have c3 := h.c3
  have f1 := h.fz 1
  have f3 := h.fz 3
  have h1 : RIs base rS v { s with after := -1 } (w.setCell ⟨rS, 1, none⟩ (.int .i64 (-1))) := rset h 1 _ rfl rfl
  have HK := Lib.hid (show RIs base rS v { s with after := -1, dead := false } ((w.setCell ⟨rS, 1, none⟩ (.int .i64 (-1))).setCell ⟨rS, 3, none⟩ (.bool false)) ∧ Below base w ((w.setCell ⟨rS, 1, none⟩ (.int .i64 (-1))).setCell ⟨rS, 3, none⟩ (.bool false)) from ⟨rset h1 3 _ rfl rfl, (rBelow h).trans (rBelow h1)⟩)
  clear h1 h
  go_enter Try.func18, Try.ntmps18
  go_wp2
  go_end0
  exact ⟨rfl, HK.out.1, HK.out.2⟩
theorem RIs.form (h : RIs base rS v s w) (hb : 0 < s.bs.length) : ∃ g cp, v = .slice (some ⟨g, 0, none⟩) s.bs.length cp ∧ g < w.heap.size := by
  obtain ⟨g, cp, e, h0, h1⟩ := h.hr.form hb
  subst e
  exact ⟨g, cp, rfl, (h.hr.lt g rfl).2⟩
theorem RIs.forms (h : RIs base rS v s w) : (v = .slice none 0 0 ∧ s.bs.length = 0) ∨ ∃ g cp, v = .slice (some ⟨g, 0, none⟩) s.bs.length cp := by
  rcases h.hr.2 with h1 | ⟨g, cap, cur, e, _⟩
  · exact .inl h1
  · exact .inr ⟨g, cap, e⟩
theorem RRead_any (h : RIs base rS v s w) (n : Int) (hl : s.bs.length ≤ 20) : Calls Try.prog 23 #[PR rS, .int .i64 n] w fun e w' => (e = .returned (if beg s n = 0 then .tuple #[.string ⟨(s.bs.getD n.toNat []).toArray⟩, .int .i64 0] else .tuple #[.string ⟨#[]⟩, .int .i64 (beg s n)])) ∧ w = w' := by
  have c3 := h.c3
  have c0 := h.c0
  unfold beg
  cases hd : s.dead with
  | true =>
    rw [hd] at c3
    simp only [if_true]
    rw [if_neg (by decide)]
    clear h c0 hd
    go_enter Try.func23, Try.ntmps23
    go_wp2
    go_ret2
    exact ⟨rfl, rfl⟩
  | false =>
    rw [hd] at c3
    simp only [Bool.false_eq_true, if_false]
    by_cases h1 : n < 0
    · rw [if_neg (show ¬ (0 ≤ n ∧ n < (s.bs.length : Int)) by omega), if_neg (by decide)]
      clear h c0 hd
      go_enter Try.func23, Try.ntmps23
      go_wp2
      go_ret2
      exact ⟨rfl, rfl⟩
    · by_cases h2 : n < (s.bs.length : Int)
      · rw [if_pos (show (0 ≤ n ∧ n < (s.bs.length : Int)) by omega), if_pos rfl]
        obtain ⟨k, rfl⟩ : ∃ k : Nat, n = (k : Int) := ⟨n.toNat, by omega⟩
        obtain ⟨g, cp, rfl, _⟩ := h.form (by omega)
        have hc := h.hr.cellAt k (by omega)
        rw [strs_at s.bs k (by omega)] at hc
        have hgd : s.bs.getD (k : Int).toNat [] = s.bs[k]'(by omega) := by rw [Int.toNat_natCast, List.getD_eq_getElem?_getD, List.getElem?_eq_getElem (by omega)]; rfl
        rw [hgd]
        obtain ⟨X, hX⟩ : ∃ X, X = (⟨(s.bs[k]'(by omega)).toArray⟩ : ByteArray) := ⟨_, rfl⟩
        rw [← hX] at hc ⊢
        obtain ⟨L, hL⟩ : ∃ L, L = s.bs.length := ⟨_, rfl⟩
        rw [← hL] at c0 h2 hl
        clear hX hgd h hd hL
        go_enter Try.func23, Try.ntmps23
        go_wp2
        go_ret2
        exact ⟨rfl, rfl⟩
      · rw [if_neg (show ¬ (0 ≤ n ∧ n < (s.bs.length : Int)) by omega), if_neg (by decide)]
        rcases h.forms with ⟨rfl, e2⟩ | ⟨g, cp, rfl⟩
        · clear h hd
          rw [e2] at h2
          go_enter Try.func23, Try.ntmps23
          go_wp2
          go_ret2
          exact ⟨rfl, rfl⟩
        · obtain ⟨L, hL⟩ : ∃ L, L = s.bs.length := ⟨_, rfl⟩
          rw [← hL] at c0 h2 hl
          clear h hd hL
          go_enter Try.func23, Try.ntmps23
          go_wp2
          go_ret2
          exact ⟨rfl, rfl⟩
/-- What a write hands back, and the slab behind it. -/
def codeW (s : S) (n : Int) (b : ByteArray) : Int := if s.dead then 210 else if ¬ (0 ≤ n ∧ n < (s.bs.length : Int)) ∨ b.size ≠ 64 then 2 else if s.after = 0 then 210 else 0
def stepW (s : S) (n : Int) (b : ByteArray) : S :=
  if s.dead then s else if ¬ (0 ≤ n ∧ n < (s.bs.length : Int)) ∨ b.size ≠ 64 then s
  else if s.after = 0 then { s with bs := wr s.bs n.toNat (b.data.toList.take (clamp s.keep).toNat), dead := true }
  else { s with bs := s.bs.set n.toNat b.data.toList, after := max (s.after - 1) (-1), writes := s.writes + 1 }
theorem RWrite_dead (h : RIs base rS v s w) (hd : s.dead = true) (n : Int) (b : ByteArray) : Calls Try.prog 14 #[PR rS, .int .i64 n, .string b] w fun e w' => e = .returned (.int .i64 210) ∧ w = w' := by
  have c3 := h.c3
  rw [hd] at c3
  clear h hd
  go_enter Try.func14, Try.ntmps14
  go_wp2
  go_ret
  exact ⟨rfl, rfl⟩
theorem RWrite_bad (h : RIs base rS v s w) (hd : s.dead = false) (n : Int) (b : ByteArray) (hl : s.bs.length ≤ 20) (hbs : b.size ≤ 9223372036854775807) (hn : ¬ (0 ≤ n ∧ n < (s.bs.length : Int)) ∨ b.size ≠ 64) :
    Calls Try.prog 14 #[PR rS, .int .i64 n, .string b] w fun e w' => e = .returned (.int .i64 2) ∧ w = w' := by
  have c3 := h.c3
  have c0 := h.c0
  rw [hd] at c3
  by_cases h1 : n < 0
  · clear h hd hn c0
    go_enter Try.func14, Try.ntmps14
    go_wp2
    go_ret
    exact ⟨rfl, rfl⟩
  · by_cases h2 : n < (s.bs.length : Int)
    · have h64 : b.size ≠ 64 := hn.resolve_left (by omega)
      have hb5 : ((b.size : Int) != 64) = true := by rw [bne_iff_ne]; omega
      rcases h.forms with ⟨rfl, e2⟩ | ⟨g, cp, rfl⟩
      · omega
      · obtain ⟨L, hL⟩ : ∃ L, L = s.bs.length := ⟨_, rfl⟩
        rw [← hL] at c0 h2 hl
        clear h hd hL hn h64
        go_enter Try.func14, Try.ntmps14
        go_wp2
        go_ret
        exact ⟨rfl, rfl⟩
    · rcases h.forms with ⟨rfl, e2⟩ | ⟨g, cp, rfl⟩
      · clear h hd hn
        rw [e2] at h2
        go_enter Try.func14, Try.ntmps14
        go_wp2
        go_ret
        exact ⟨rfl, rfl⟩
      · obtain ⟨L, hL⟩ : ∃ L, L = s.bs.length := ⟨_, rfl⟩
        rw [← hL] at c0 h2 hl
        clear h hd hL hn
        go_enter Try.func14, Try.ntmps14
        go_wp2
        go_ret
        exact ⟨rfl, rfl⟩
/-- The struct's cells and the row's, each known. -/
structure Two (w0 : World) (base rS : Nat) (cells : List Value) (u : Value) (n : Nat) (xs : List Value) (w : World) : Prop where
  hs : w.ownsRow base 41 5 (.slice (some ⟨rS, 0, none⟩) 1 1) 1 cells
  hr : w.ownsRow base 9 1 u n xs
  low : Below base w0 w
  le : base ≤ rS
variable {cells : List Value} {u : Value} {n : Nat} {xs : List Value}
theorem Two.setS (h : Two w0 base rS cells u n xs w) (j : Nat) (x : Value) : Two w0 base rS (cells.set j x) u n xs (w.setCell ⟨rS, j, none⟩ x) :=
  ⟨(h.hs.stored j x).1, own_blk h.hr ⟨rS, j, none⟩ (own_apart h.hr h.hs (by decide) rS rfl) x, h.low.setCell (p := ⟨rS, j, none⟩) h.le x, h.le⟩
theorem Two.setR {g cp : Nat} (h : Two w0 base rS cells (.slice (some ⟨g, 0, none⟩) n cp) n xs w) (j : Nat) (x : Value) : Two w0 base rS cells (.slice (some ⟨g, 0, none⟩) n cp) n (xs.set j x) (w.setCell ⟨g, j, none⟩ x) :=
  ⟨own_blk h.hs ⟨g, j, none⟩ (own_apart h.hs h.hr (by decide) g rfl) x, (h.hr.stored j x).1, h.low.setCell (p := ⟨g, j, none⟩) (h.hr.lt g rfl).1 x, h.le⟩
theorem Two.toR {s : S} {v : Value} (h : Two w0 base rS cells v n xs w) (hc : cells = rcells v s) (hn : n = s.bs.length) (hx : xs = strs s.bs) (hl : ∀ b ∈ s.bs, b.length = 64) : RIs base rS v s w := by
  subst hc hn hx
  exact ⟨h.hs, h.hr, own_apart h.hr h.hs (by decide) rS rfl, hl⟩
theorem addz (g j : Nat) : (⟨g, 0, none⟩ : Addr).add j = ⟨g, j, none⟩ := by unfold Addr.add; split <;> simp_all
def RPost (base rS : Nat) (r : Int) (s : S) (w : World) (e : Ending) (w' : World) : Prop := ∃ v, e = .returned (.int .i64 r) ∧ RIs base rS v s w' ∧ Below base w w'
theorem one_strs (bs : List (List UInt8)) : ∀ x ∈ strs bs, x.oneCell' = true := by
  intro x hx
  unfold strs at hx
  obtain ⟨b, _, rfl⟩ := List.mem_map.1 hx
  rfl
theorem strs_len (bs : List (List UInt8)) : (strs bs).length = bs.length := by unfold strs; rw [List.length_map]
theorem set_strs (bs : List (List UInt8)) (k : Nat) (b : ByteArray) : (strs bs).set k (.string b) = strs (bs.set k b.data.toList) := by unfold strs; rw [List.map_set]
theorem mem_set64 {bs : List (List UInt8)} (h : ∀ b ∈ bs, b.length = 64) (k : Nat) (l : List UInt8) (hl : l.length = 64) : ∀ b ∈ bs.set k l, b.length = 64 := by
  intro b hb
  rcases List.mem_or_eq_of_mem_set hb with h1 | h1
  · exact h b h1
  · rw [h1]; exact hl
set_option maxRecDepth 100000 in
set_option maxHeartbeats 2000000 in
theorem RWrite_live (h : RIs base rS v s w) (hd : s.dead = false) (k : Nat) (hk : k < s.bs.length) (hl : s.bs.length ≤ 20) (b : ByteArray) (hb : b.size = 64) (ha : s.after ≠ 0) (ha1 : -1 ≤ s.after) (ha2 : s.after ≤ 9223372036854775807) (hc : 0 ≤ s.writes) (hc2 : s.writes ≤ 9000000000000000000) :
    Calls Try.prog 14 #[PR rS, .int .i64 (k : Int), .string b] w (RPost base rS 0 { s with bs := s.bs.set k b.data.toList, after := max (s.after - 1) (-1), writes := s.writes + 1 } w) := by
  obtain ⟨g0, cp0, rfl, hg0⟩ := h.form (by omega)
  have hrs := h.base_le
  have c0 := h.c0
  have c3 := h.c3
  rw [hd] at c3
  have hnews : ∀ (j : Nat) (u : Value), (strs s.bs)[j]? = some u → w.cell? ⟨g0, j, none⟩ = some u := fun j u hj => by
    have := h.hr.cells (g := g0) rfl j u hj
    rwa [addz] at this
  have hown : (w.alloc (.cells #[] 9)).ownsRow base 9 1 (.slice (some ⟨w.heap.size, 0, none⟩) 0 0) 0 [] := World.ownsRow_lit w #[] 0 (by omega) (by decide) rfl
  have HS := Lib.hid (h.hs.alloc (.cells #[] 9))
  have HLE := Lib.hid h.len
  have HNW := Lib.hid hnews
  have HLO := Lib.hid (show Below base w (w.alloc (.cells #[] 9)) from (Below.refl base w).alloc (by omega) _)
  obtain ⟨i0, hi, hz0, hz1, hz2⟩ := info_parts infoStr
  obtain ⟨L, hL⟩ : ∃ L, L = s.bs.length := ⟨_, rfl⟩
  obtain ⟨aft, haf⟩ : ∃ a, a = s.after := ⟨_, rfl⟩
  obtain ⟨wri, hwr⟩ : ∃ a, a = s.writes := ⟨_, rfl⟩
  obtain ⟨kp, hkp⟩ : ∃ a, a = s.keep := ⟨_, rfl⟩
  have HRC : Hid (rcells (.slice (some ⟨g0, 0, none⟩) s.bs.length cp0) s = [.slice (some ⟨g0, 0, none⟩) L cp0, .int .i64 aft, .int .i64 kp, .bool false, .int .i64 wri]) := Lib.hid (by unfold rcells; rw [hL, haf, hkp, hwr, hd])
  have HEQ : Hid (s.bs.length = L ∧ s.after = aft ∧ s.keep = kp ∧ s.writes = wri ∧ s.dead = false) := Lib.hid ⟨hL.symm, haf.symm, hkp.symm, hwr.symm, hd⟩
  rw [← hL] at c0 hk hl
  rw [← haf] at ha ha1 ha2
  rw [← hwr] at hc hc2
  have h64 : ((b.size : Int) != 64) = false := by rw [bne_eq_false_iff_eq]; omega
  have b1 : ¬ ((k : Int) < 0) := by omega
  have b2 : (k : Int) < (L : Int) := by omega
  have HB := Lib.hid hb
  have HNL : Hid ((strs s.bs).length = L * 1) := Lib.hid (by rw [strs_len, hL, Nat.mul_one])
  clear hL haf hwr hkp hd h hnews
  go_enter Try.func14, Try.ntmps14
  go_wp2_with (at_builtin; refine wpList_append_own _ rfl _ _ 39 rfl base 9 i0 (.string ⟨#[]⟩) 1 16 Try.underlying39 hi hz0 hz1 hz2 rfl (by decide) _ _ _ rfl hown ⟨g0, 0, none⟩ L cp0 (strs s.bs) rfl HNL.out ?c1 ?c2 ?c3 ?c4 ?c5 ?_)
  case c1 => exact HNW.out
  case c2 => exact one_strs _
  case c3 => simp only [maxLen]; omega
  case c4 => omega
  case c5 => omega
  intro v' w5 hown' hgrow _
  obtain ⟨g5, cp5, rfl, hg50, hg51⟩ := hown'.form (by omega)
  have hst5 := rgrown HS.out hgrow (fun b hb e => by
    have e1 : b = rS := by simpa [Value.ownBlock] using hb.symm
    have e2 : w.heap.size = b := by simpa [Value.ownBlock] using e
    omega)
  rw [HRC.out] at hst5
  have hb5 : Below base w w5 := HLO.out.grown hgrow (by simp; omega) (fun g hg => (hown.lt g hg).1)
  have H2 : Two w base rS [.slice (some ⟨g0, 0, none⟩) L cp0, .int .i64 aft, .int .i64 kp, .bool false, .int .i64 wri] (.slice (some ⟨g5, 0, none⟩) L cp5) L (strs s.bs) w5 := ⟨hst5, hown', hb5, hrs.1⟩
  have HT := Lib.hid H2
  have d1 : w5.cell? ⟨rS, 1, none⟩ = some (.int .i64 aft) := H2.hs.cellAt 1 (by omega)
  have d4 : w5.cell? ⟨rS, 4, none⟩ = some (.int .i64 wri) := H2.hs.cellAt 4 (by omega)
  have d0 : w5.cell? ⟨rS, 0, none⟩ = some (.slice (some ⟨g0, 0, none⟩) L cp0) := H2.hs.cellAt 0 (by omega)
  have f0 := H2.hs.frozenAt 0
  have f1 := H2.hs.frozenAt 1
  have f4 := H2.hs.frozenAt 4
  obtain ⟨X, hX⟩ : ∃ X, (strs s.bs)[k]? = some X := by
    have := HNL.out
    exact ⟨_, List.getElem?_eq_getElem (by omega)⟩
  have dk : w5.cell? ⟨g5, k, none⟩ = some X := (H2.hr.cellAt k (by omega)).trans hX
  have fk := H2.hr.frozenAt k
  have hgr : ¬ g5 = rS := fun e => own_apart H2.hs H2.hr (by decide) g5 rfl (by rw [e]; rfl)
  have hgr2 : ¬ rS = g5 := fun e => hgr e.symm
  clear hown' hg50 hg51 hst5 hb5 H2 hX hgrow hown
  have hw9 : wri + 1 ≤ 9223372036854775807 := by omega
  by_cases ca : aft = -1
  · subst ca
    have HF : Hid (RIs base rS (.slice (some ⟨g5, 0, none⟩) L cp5) { s with bs := s.bs.set k b.data.toList, after := max (s.after - 1) (-1), writes := s.writes + 1 } (((w5.setCell ⟨g5, k, none⟩ (.string b)).setCell ⟨rS, 0, none⟩ (.slice (some ⟨g5, 0, none⟩) L cp5)).setCell ⟨rS, 4, none⟩ (.int .i64 (wri + 1))) ∧ Below base w (((w5.setCell ⟨g5, k, none⟩ (.string b)).setCell ⟨rS, 0, none⟩ (.slice (some ⟨g5, 0, none⟩) L cp5)).setCell ⟨rS, 4, none⟩ (.int .i64 (wri + 1)))) := Lib.hid (by
      have h5 := ((HT.out.setR k (.string b)).setS 0 (.slice (some ⟨g5, 0, none⟩) L cp5)).setS 4 (.int .i64 (wri + 1))
      obtain ⟨e1, e2, e3, e4, e5⟩ := HEQ.out
      refine ⟨h5.toR ?_ ?_ ?_ ?_, h5.low⟩
      · unfold rcells; simp only [e2, e3, e4, e5, List.set_cons_zero, List.set_cons_succ]; rfl
      · simp only [List.length_set]; exact e1.symm
      · exact set_strs _ _ _
      · exact mem_set64 HLE.out k _ (by rw [U.len_data]; exact HB.out))
    go_wp2
    go_ret
    exact ⟨_, rfl, HF.out.1, HF.out.2⟩
  · have hpos : 0 < aft := by omega
    have HF : Hid (RIs base rS (.slice (some ⟨g5, 0, none⟩) L cp5) { s with bs := s.bs.set k b.data.toList, after := max (s.after - 1) (-1), writes := s.writes + 1 } ((((w5.setCell ⟨rS, 1, none⟩ (.int .i64 (aft - 1))).setCell ⟨g5, k, none⟩ (.string b)).setCell ⟨rS, 0, none⟩ (.slice (some ⟨g5, 0, none⟩) L cp5)).setCell ⟨rS, 4, none⟩ (.int .i64 (wri + 1))) ∧ Below base w ((((w5.setCell ⟨rS, 1, none⟩ (.int .i64 (aft - 1))).setCell ⟨g5, k, none⟩ (.string b)).setCell ⟨rS, 0, none⟩ (.slice (some ⟨g5, 0, none⟩) L cp5)).setCell ⟨rS, 4, none⟩ (.int .i64 (wri + 1)))) := Lib.hid (by
      have h5 := (((HT.out.setS 1 (.int .i64 (aft - 1))).setR k (.string b)).setS 0 (.slice (some ⟨g5, 0, none⟩) L cp5)).setS 4 (.int .i64 (wri + 1))
      obtain ⟨e1, e2, e3, e4, e5⟩ := HEQ.out
      refine ⟨h5.toR ?_ ?_ ?_ ?_, h5.low⟩
      · unfold rcells; simp only [e2, e3, e4, e5, List.set_cons_zero, List.set_cons_succ]; rw [show max (aft - 1) (-1) = aft - 1 by omega]
      · simp only [List.length_set]; exact e1.symm
      · exact set_strs _ _ _
      · exact mem_set64 HLE.out k _ (by rw [U.len_data]; exact HB.out))
    clear ca
    go_wp2
    go_ret
    exact ⟨_, rfl, HF.out.1, HF.out.2⟩
set_option maxRecDepth 100000 in
set_option maxHeartbeats 2000000 in
theorem RWrite_tear (h : RIs base rS v s w) (hd : s.dead = false) (k : Nat) (hk : k < s.bs.length) (hl : s.bs.length ≤ 20) (b : ByteArray) (hb : b.size = 64) (ha : s.after = 0) :
    Calls Try.prog 14 #[PR rS, .int .i64 (k : Int), .string b] w (RPost base rS 210 { s with bs := wr s.bs k (b.data.toList.take (clamp s.keep).toNat), dead := true } w) := by
  obtain ⟨g0, cp0, rfl, hg0⟩ := h.form (by omega)
  have hrs := h.base_le
  have c0 := h.c0
  have c3 := h.c3
  rw [hd] at c3
  have hnews : ∀ (j : Nat) (u : Value), (strs s.bs)[j]? = some u → w.cell? ⟨g0, j, none⟩ = some u := fun j u hj => by
    have := h.hr.cells (g := g0) rfl j u hj
    rwa [addz] at this
  have hown : (w.alloc (.cells #[] 9)).ownsRow base 9 1 (.slice (some ⟨w.heap.size, 0, none⟩) 0 0) 0 [] := World.ownsRow_lit w #[] 0 (by omega) (by decide) rfl
  have HS := Lib.hid (h.hs.alloc (.cells #[] 9))
  have HLE := Lib.hid h.len
  have HNW := Lib.hid hnews
  have HLO := Lib.hid (show Below base w (w.alloc (.cells #[] 9)) from (Below.refl base w).alloc (by omega) _)
  obtain ⟨i0, hi, hz0, hz1, hz2⟩ := info_parts infoStr
  obtain ⟨L, hL⟩ : ∃ L, L = s.bs.length := ⟨_, rfl⟩
  obtain ⟨aft, haf⟩ : ∃ a, a = s.after := ⟨_, rfl⟩
  obtain ⟨wri, hwr⟩ : ∃ a, a = s.writes := ⟨_, rfl⟩
  obtain ⟨kp, hkp⟩ : ∃ a, a = s.keep := ⟨_, rfl⟩
  have HRC : Hid (rcells (.slice (some ⟨g0, 0, none⟩) s.bs.length cp0) s = [.slice (some ⟨g0, 0, none⟩) L cp0, .int .i64 aft, .int .i64 kp, .bool false, .int .i64 wri]) := Lib.hid (by unfold rcells; rw [hL, haf, hkp, hwr, hd])
  have HEQ : Hid (s.bs.length = L ∧ s.after = aft ∧ s.keep = kp ∧ s.writes = wri ∧ s.dead = false) := Lib.hid ⟨hL.symm, haf.symm, hkp.symm, hwr.symm, hd⟩
  rw [← hL] at c0 hk hl
  rw [← haf] at ha
  subst ha
  have h64 : ((b.size : Int) != 64) = false := by rw [bne_eq_false_iff_eq]; omega
  have b1 : ¬ ((k : Int) < 0) := by omega
  have b2 : (k : Int) < (L : Int) := by omega
  have HB := Lib.hid hb
  have HNL : Hid ((strs s.bs).length = L * 1) := Lib.hid (by rw [strs_len, hL, Nat.mul_one])
  clear hL haf hwr hkp hd h hnews
  go_enter Try.func14, Try.ntmps14
  go_wp2_with (at_builtin; refine wpList_append_own _ rfl _ _ 39 rfl base 9 i0 (.string ⟨#[]⟩) 1 16 Try.underlying39 hi hz0 hz1 hz2 rfl (by decide) _ _ _ rfl hown ⟨g0, 0, none⟩ L cp0 (strs s.bs) rfl HNL.out ?c1 ?c2 ?c3 ?c4 ?c5 ?_)
  case c1 => exact HNW.out
  case c2 => exact one_strs _
  case c3 => simp only [maxLen]; omega
  case c4 => omega
  case c5 => omega
  intro v' w5 hown' hgrow _
  obtain ⟨g5, cp5, rfl, hg50, hg51⟩ := hown'.form (by omega)
  have hst5 := rgrown HS.out hgrow (fun b hb e => by
    have e1 : b = rS := by simpa [Value.ownBlock] using hb.symm
    have e2 : w.heap.size = b := by simpa [Value.ownBlock] using e
    omega)
  rw [HRC.out] at hst5
  have hb5 : Below base w w5 := HLO.out.grown hgrow (by simp; omega) (fun g hg => (hown.lt g hg).1)
  have H2 : Two w base rS [.slice (some ⟨g0, 0, none⟩) L cp0, .int .i64 0, .int .i64 kp, .bool false, .int .i64 wri] (.slice (some ⟨g5, 0, none⟩) L cp5) L (strs s.bs) w5 := ⟨hst5, hown', hb5, hrs.1⟩
  have HT := Lib.hid H2
  have d2 : w5.cell? ⟨rS, 2, none⟩ = some (.int .i64 kp) := H2.hs.cellAt 2 (by omega)
  have d3 : w5.cell? ⟨rS, 3, none⟩ = some (.bool false) := H2.hs.cellAt 3 (by omega)
  have f3 := H2.hs.frozenAt 3
  have d1 : w5.cell? ⟨rS, 1, none⟩ = some (.int .i64 0) := H2.hs.cellAt 1 (by omega)
  have d4 : w5.cell? ⟨rS, 4, none⟩ = some (.int .i64 wri) := H2.hs.cellAt 4 (by omega)
  have d0 : w5.cell? ⟨rS, 0, none⟩ = some (.slice (some ⟨g0, 0, none⟩) L cp0) := H2.hs.cellAt 0 (by omega)
  have f0 := H2.hs.frozenAt 0
  have f1 := H2.hs.frozenAt 1
  have f4 := H2.hs.frozenAt 4
  have hkL : k < s.bs.length := by have := HEQ.out.1; omega
  obtain ⟨Y, hY⟩ : ∃ Y : ByteArray, Y = ⟨(s.bs[k]).toArray⟩ := ⟨_, rfl⟩
  obtain ⟨X, hX⟩ : ∃ X, (strs s.bs)[k]? = some X := ⟨_, strs_at s.bs k hkL⟩
  have hXY : X = .string Y := by rw [strs_at s.bs k hkL] at hX; rw [hY]; exact (Option.some.inj hX).symm
  subst hXY
  have hy64 : Y.size = 64 := by rw [hY, ← U.len_data]; exact HLE.out _ (List.getElem_mem hkL)
  have HF : Hid (∀ (K : Nat) (T : ByteArray), (clamp s.keep).toNat = K → K ≤ 64 → T.data.toList = b.data.toList.take K ++ Y.data.toList.drop K → RIs base rS (.slice (some ⟨g5, 0, none⟩) L cp5) { s with bs := wr s.bs k (b.data.toList.take (clamp s.keep).toNat), dead := true } (((w5.setCell ⟨g5, k, none⟩ (.string T)).setCell ⟨rS, 0, none⟩ (.slice (some ⟨g5, 0, none⟩) L cp5)).setCell ⟨rS, 3, none⟩ (.bool true)).drew ∧ Below base w (((w5.setCell ⟨g5, k, none⟩ (.string T)).setCell ⟨rS, 0, none⟩ (.slice (some ⟨g5, 0, none⟩) L cp5)).setCell ⟨rS, 3, none⟩ (.bool true)).drew) := Lib.hid (fun K T hK hK2 hT => by
    have h4 := ((HT.out.setR k (.string T)).setS 0 (.slice (some ⟨g5, 0, none⟩) L cp5)).setS 3 (.bool true)
    have h5 : Two w base rS _ _ _ _ (((w5.setCell ⟨g5, k, none⟩ (.string T)).setCell ⟨rS, 0, none⟩ (.slice (some ⟨g5, 0, none⟩) L cp5)).setCell ⟨rS, 3, none⟩ (.bool true)).drew := ⟨h4.hs, h4.hr, U.below_drewN h4.low 1, h4.le⟩
    obtain ⟨e1, e2, e3, e4, e5⟩ := HEQ.out
    have hbl : (b.data.toList.take K).length = K := by rw [List.length_take, U.len_data, HB.out]; omega
    have hw : Slb.wr s.bs k (b.data.toList.take K) = s.bs.set k T.data.toList := by
      unfold Slb.wr
      rw [hbl, hT, hY, List.getD_eq_getElem?_getD, List.getElem?_eq_getElem hkL]; rfl
    refine ⟨h5.toR ?_ ?_ ?_ ?_, h5.low⟩
    · unfold rcells; simp only [e2, e3, e4, List.set_cons_zero, List.set_cons_succ]
    · rw [hK, hw]; simp only [List.length_set]; exact e1.symm
    · rw [hK, hw]; exact set_strs _ _ _
    · exact wr_len s.bs HLE.out k _ (by rw [hK, hbl]; exact hK2))
  have HKP : Hid (s.keep = kp) := Lib.hid HEQ.out.2.2.1
  have dk : w5.cell? ⟨g5, k, none⟩ = some (.string Y) := (H2.hr.cellAt k (by omega)).trans hX
  have fk := H2.hr.frozenAt k
  have hgr : ¬ g5 = rS := fun e => own_apart H2.hs H2.hr (by decide) g5 rfl (by rw [e]; rfl)
  have hgr2 : ¬ rS = g5 := fun e => hgr e.symm
  have hq : ∀ x : U.In (U.Ext w5.drew), x.w.cell? ⟨g5, k, none⟩ = some (.string Y) := fun x => x.h _ _ dk
  haveI : Nonempty (U.In (U.Ext w5.drew)) := ⟨⟨_, U.Ext.refl _⟩⟩
  have hb64 : b.size = 64 := HB.out
  clear hY hkL hown' hg50 hg51 hst5 hb5 H2 hX hgrow hown
  rcases (show kp ≤ 0 ∨ (0 < kp ∧ kp ≤ 64) ∨ 64 < kp by omega) with k1 | ⟨k1, k2⟩ | k1
  · skip
    go_wp2
    refine wp_region_ord [0, 1, 2, 3, 4, 5, 6, 7, 8, 9, 10, 11, 12] [] [13] (by kernel_rfl) (by kernel_rfl) (by kernel_rfl) ?_
    simp only [List.cons_append, List.nil_append, List.filterMap_cons, List.filterMap_nil, List.getElem?_toArray, List.getElem?_cons_succ, List.getElem?_cons_zero]
    change wpQuiet _ _ _ _ [_, _, _, _, _, _, _, _, _, _, _, _, _] _
    repeat go_big_quiet_step (fail)
    refine wpQuiet_nil ?_
    unfold U.Ends
    change wpList _ _ _ [_] _ _
    go_wp2
    go_ret
    have hx := fun T hT => HF.out (0) T (by rw [HKP.out]; unfold clamp; omega) (by omega) hT
    have hyl : Y.data.toList.length = 64 := by rw [U.len_data]; exact hy64
    have hbl : b.data.toList.length = 64 := by rw [U.len_data]; exact hb64
    have hz := hx _ (show (Y.extract 0 64).data.toList = _ by rw [U.take_data, List.take_of_length_le (by omega)]; rfl)
    exact ⟨_, rfl, hz.1, hz.2⟩
  · have k3 : (kp : Int) ≤ (b.size : Int) := by omega
    have k4 : (kp : Int) ≤ (Y.size : Int) := by omega
    go_wp2
    refine wp_region_ord [0, 1, 2, 3, 4, 5, 6, 7, 8, 9, 10, 11, 12] [] [13] (by kernel_rfl) (by kernel_rfl) (by kernel_rfl) ?_
    simp only [List.cons_append, List.nil_append, List.filterMap_cons, List.filterMap_nil, List.getElem?_toArray, List.getElem?_cons_succ, List.getElem?_cons_zero]
    change wpQuiet _ _ _ _ [_, _, _, _, _, _, _, _, _, _, _, _, _] _
    repeat go_big_quiet_step (fail)
    refine wpQuiet_nil ?_
    unfold U.Ends
    change wpList _ _ _ [_] _ _
    go_wp2
    go_ret
    have hx := fun T hT => HF.out (kp.toNat) T (by rw [HKP.out]; unfold clamp; omega) (by omega) hT
    have hyl : Y.data.toList.length = 64 := by rw [U.len_data]; exact hy64
    have hbl : b.data.toList.length = 64 := by rw [U.len_data]; exact hb64
    have hz := hx _ (show (b.extract 0 kp.toNat ++ Y.extract kp.toNat 64).data.toList = _ by rw [U.append_data, U.take_data, ← hy64, U.drop_data])
    exact ⟨_, rfl, hz.1, hz.2⟩
  · skip
    go_wp2
    refine wp_region_ord [0, 1, 2, 3, 4, 5, 6, 7, 8, 9, 10, 11, 12] [] [13] (by kernel_rfl) (by kernel_rfl) (by kernel_rfl) ?_
    simp only [List.cons_append, List.nil_append, List.filterMap_cons, List.filterMap_nil, List.getElem?_toArray, List.getElem?_cons_succ, List.getElem?_cons_zero]
    change wpQuiet _ _ _ _ [_, _, _, _, _, _, _, _, _, _, _, _, _] _
    repeat go_big_quiet_step (fail)
    refine wpQuiet_nil ?_
    unfold U.Ends
    change wpList _ _ _ [_] _ _
    go_wp2
    go_ret
    have hx := fun T hT => HF.out (64) T (by rw [HKP.out]; unfold clamp; omega) (by omega) hT
    have hyl : Y.data.toList.length = 64 := by rw [U.len_data]; exact hy64
    have hbl : b.data.toList.length = 64 := by rw [U.len_data]; exact hb64
    have hz := hx _ (show (b.extract 0 64).data.toList = _ by rw [U.take_data, List.drop_of_length_le (by omega), List.append_nil])
    exact ⟨_, rfl, hz.1, hz.2⟩
end Go.Proofs.Ythpkmcohcjpmhaa.Slb
