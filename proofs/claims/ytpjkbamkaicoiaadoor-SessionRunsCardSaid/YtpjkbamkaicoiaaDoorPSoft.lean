/- Contracts of functions of this translation, and what they come to; what is not used is left out. -/
import Derived.OwnWalk
import Derived.Laws.OwnMore
import Derived.Laws.MakeOwn
import Derived.ArgAppend
import Derived.Deep.AppendLies
import Derived.Lib.ConvBytes
import Derived.Test.YtpjkbamkaicoiaaDoorPCls
import Derived.Test.YtpjkbamkaicoiaaDoorPUtil

section
/- Rows of one-cell elements of the call's own, a frozen mark behind their end allowed: what []byte(s) lays, and what append makes of it. -/
set_option linter.unusedVariables false
set_option linter.unusedSimpArgs false
namespace Go.Proofs.YtpjkbamkaicoiaaDoor.U
open Go.RowKit
/-- The slice's array is the call's own: its cells are there and may be written; the first n are xs. -/
def Soft (w : World) (B : Nat) (v : Value) (n : Nat) (xs : List Value) : Prop :=
  xs.length = n ∧ ((v = .slice none 0 0 ∧ n = 0) ∨
    ∃ g cap, v = .slice (some ⟨g, 0, none⟩) n cap ∧ B ≤ g ∧ g < w.heap.size ∧ n ≤ cap ∧ cap ≤ maxLen ∧ (∀ j u, xs[j]? = some u → w.cell? ⟨g, j, none⟩ = some u) ∧ (∀ j, j < cap → (w.cell? ⟨g, j, none⟩).isSome = true ∧ w.frozen? ⟨g, j, none⟩ = false))
variable {w w' : World} {B : Nat} {v : Value} {n : Nat} {xs : List Value}
theorem Soft.nil (w : World) (B : Nat) : Soft w B (.slice none 0 0) 0 [] := ⟨rfl, .inl ⟨rfl, rfl⟩⟩
theorem Soft.of_own {e : TypeId} (h : w.ownsRow B e 1 v n xs) : Soft w B v n xs := by
  obtain ⟨h1, h2⟩ := h
  refine ⟨by omega, ?_⟩
  rcases h2 with h2 | ⟨g, cap, cur, rfl, hB, hg, hn, hm, hs, ht⟩
  · exact .inl h2
  · have hlt : g < w.heap.size := by
      rcases Nat.lt_or_ge g w.heap.size with h' | h'
      · exact h'
      · rw [Array.getElem?_eq_none h'] at hg; cases hg
    refine .inr ⟨g, cap, rfl, hB, hlt, hn, hm, fun j u hj => ?_, fun j hj => ⟨?_, frozen_of_row w g j cur e hg⟩⟩
    · rw [cell_of_row w g j cur e (0, 0) hg]
      rw [← ht, List.getElem?_take] at hj
      split at hj
      · simpa using hj
      · cases hj
    · rw [cell_of_row w g j cur e (0, 0) hg, Array.getElem?_eq_getElem (by omega)]; rfl
theorem Soft.kept {row : Option Nat} (h : Soft w B v n xs) (hg : w.grownBy w' row) (hne : ∀ b, v.ownBlock = some b → row ≠ some b) : Soft w' B v n xs := by
  obtain ⟨h1, h2⟩ := h
  refine ⟨h1, ?_⟩
  rcases h2 with h2 | ⟨g, cap, rfl, hB, hlt, hn, hm, hc, hf⟩
  · exact .inl h2
  · have hb := hg.block g hlt (fun e => hne g rfl e.symm)
    have kc : ∀ j, w'.cell? ⟨g, j, none⟩ = w.cell? ⟨g, j, none⟩ := fun j => World.cell?_of_block (a := ⟨g, j, none⟩) hb
    have kf : ∀ j, w'.frozen? ⟨g, j, none⟩ = w.frozen? ⟨g, j, none⟩ := fun j => World.frozen?_of_block (a := ⟨g, j, none⟩) hb
    exact .inr ⟨g, cap, rfl, hB, Nat.lt_of_lt_of_le hlt hg.size, hn, hm, fun j u hj => by rw [kc]; exact hc j u hj, fun j hj => by rw [kc, kf]; exact hf j hj⟩
theorem Soft.below (h : Soft w B v n xs) (hb : Below w.heap.size w w') : Soft w' B v n xs :=
  h.kept (row := none) ⟨hb.os, hb.tape, hb.output, hb.size, fun j hj _ => hb.block j hj⟩ (fun _ _ h => by cases h)
theorem Soft.drewN (h : Soft w B v n xs) (k : Nat) : Soft (w.drewN k) B v n xs := h.below (U.below_drewN (Below.refl _ _) k)
theorem Soft.form (h : Soft w B v n xs) (hn : 0 < n) : ∃ g cp, v = .slice (some ⟨g, 0, none⟩) n cp ∧ B ≤ g ∧ g < w.heap.size := by
  rcases h.2 with ⟨_, h2⟩ | ⟨g, cap, rfl, hB, hlt, _⟩
  · omega
  · exact ⟨g, cap, rfl, hB, hlt⟩
theorem Soft.slice (h : Soft w B v n xs) : ∃ A cp, v = .slice A n cp := by
  rcases h.2 with ⟨rfl, rfl⟩ | ⟨g, cap, rfl, _⟩
  · exact ⟨_, _, rfl⟩
  · exact ⟨_, _, rfl⟩
theorem Soft.cap_ge {g n' cp : Nat} (h : Soft w B (.slice (some ⟨g, 0, none⟩) n' cp) n xs) : n ≤ cp ∧ n' = n ∧ cp ≤ maxLen := by
  rcases h.2 with ⟨h2, _⟩ | ⟨g', cap, e, hB, hlt, hn, hm, _⟩
  · cases h2
  · injection e with e1 e2 e3; subst e2; subst e3; exact ⟨hn, rfl, hm⟩
theorem Soft.cellAt {g n' cp : Nat} (h : Soft w B (.slice (some ⟨g, 0, none⟩) n' cp) n xs) (j : Nat) (u : Value) (hj : xs[j]? = some u) : w.cell? ⟨g, j, none⟩ = some u := by
  rcases h.2 with ⟨h2, _⟩ | ⟨g', cap, e, hB, hlt, hn, hm, hc, hf⟩
  · cases h2
  · injection e with e1 e2 e3; injection e1 with e1; injection e1 with e1; subst e1; exact hc j u hj
/-- One element is written. -/
theorem Soft.set {g n' cp : Nat} (h : Soft w B (.slice (some ⟨g, 0, none⟩) n' cp) n xs) (j : Nat) (u : Value) : Soft (w.setCell ⟨g, j, none⟩ u) B (.slice (some ⟨g, 0, none⟩) n' cp) n (xs.set j u) := by
  obtain ⟨h1, h2⟩ := h
  refine ⟨by simpa using h1, ?_⟩
  rcases h2 with ⟨h2, _⟩ | ⟨g', cap, e, hB, hlt, hn, hm, hc, hf⟩
  · cases h2
  · injection e with e1 e2 e3; injection e1 with e1; injection e1 with e1; subst e1; subst e2; subst e3
    refine .inr ⟨g, cp, rfl, hB, by simpa using hlt, hn, hm, fun i x hx => ?_, fun i hi => ⟨?_, by rw [World.frozen?_setCell]; exact (hf i hi).2⟩⟩
    · by_cases hij : j = i
      · subst hij
        have hlen : j < xs.length := by
          rcases Nat.lt_or_ge j xs.length with h' | h'
          · exact h'
          · rw [List.getElem?_eq_none (by simpa using h')] at hx; cases hx
        rw [List.getElem?_set_self hlen] at hx
        have hcs := hc j _ (List.getElem?_eq_getElem hlen)
        rw [World.cell?_setCell_same w _ _ hcs]; exact hx
      · rw [List.getElem?_set_ne hij] at hx
        rw [World.cell?_setCell_other w _ _ _ (by intro hh; injection hh with _ h3; exact hij h3)]; exact hc i x hx
    · by_cases hij : j = i
      · subst hij
        obtain ⟨y, hy⟩ := Option.isSome_iff_exists.1 (hf j hi).1
        rw [World.cell?_setCell_same w _ _ hy]; rfl
      · rw [World.cell?_setCell_other w _ _ _ (by intro hh; injection hh with _ h3; exact hij h3)]; exact (hf i hi).1
theorem grown_trans {w w1 w2 : World} {row : Option Nat} (h : w.grownBy w1 row) (k : w1.grownBy w2 row) : w.grownBy w2 row :=
  ⟨k.os.trans h.os, k.tape.trans h.tape, k.output.trans h.output, Nat.le_trans h.size k.size, fun b hb hn => (k.block b (Nat.lt_of_lt_of_le hb h.size) hn).trans (h.block b hb hn)⟩
theorem grown_set (w : World) (g j : Nat) (u : Value) : w.grownBy (w.setCell ⟨g, j, none⟩ u) (some g) := ⟨rfl, rfl, rfl, by simp, fun k _ hk => heap_setCell_other w ⟨g, j, none⟩ k u (fun e => hk (by simp [e]))⟩
theorem grown_sets (g : Nat) : ∀ (vs : List Value) (o : Nat) (w : World), w.grownBy (w.setCells g o vs) (some g)
  | [], _, w => ⟨rfl, rfl, rfl, Nat.le_refl _, fun _ _ _ => rfl⟩
  | u :: r, o, w => grown_trans (grown_set w g o u) (grown_sets g r (o + 1) _)
theorem Soft.sets {g cp : Nat} : ∀ (vs : List Value) (n : Nat) (xs : List Value) (w : World), Soft w B (.slice (some ⟨g, 0, none⟩) n cp) n xs → n + vs.length ≤ cp → Soft (w.setCells g n vs) B (.slice (some ⟨g, 0, none⟩) (n + vs.length) cp) (n + vs.length) (xs ++ vs)
  | [], n, xs, w, h, _ => by simpa [World.setCells] using h
  | u :: r, n, xs, w, h, hcp => by
    have hlen : xs.length = n := h.1
    -- first the element at n is taken up
    have h1 : Soft (w.setCell ⟨g, n, none⟩ u) B (.slice (some ⟨g, 0, none⟩) (n + 1) cp) (n + 1) (xs ++ [u]) := by
      obtain ⟨h1, h2⟩ := h
      refine ⟨by simp [h1], ?_⟩
      rcases h2 with ⟨h2, _⟩ | ⟨g', cap, e, hB, hlt, hn, hm, hc, hf⟩
      · cases h2
      · injection e with e1 e2 e3; injection e1 with e1; injection e1 with e1; subst e1; subst e3
        simp only [List.length_cons] at hcp
        refine .inr ⟨g, cp, rfl, hB, by simpa using hlt, by omega, hm, fun i x hx => ?_, fun i hi => ⟨?_, by rw [World.frozen?_setCell]; exact (hf i hi).2⟩⟩
        · by_cases hij : n = i
          · subst hij
            rw [List.getElem?_append_right (by omega), h1, Nat.sub_self] at hx
            obtain ⟨y, hy⟩ := Option.isSome_iff_exists.1 (hf n (by omega)).1
            rw [World.cell?_setCell_same w _ _ hy]; simpa using hx
          · have hi : i < xs.length := by
              rcases Nat.lt_or_ge i xs.length with h' | h'
              · exact h'
              · rw [List.getElem?_eq_none (by simp; omega)] at hx; cases hx
            rw [List.getElem?_append_left hi] at hx
            rw [World.cell?_setCell_other w _ _ _ (by intro hh; injection hh with _ h3; exact hij h3)]; exact hc i x hx
        · by_cases hij : n = i
          · subst hij
            obtain ⟨y, hy⟩ := Option.isSome_iff_exists.1 (hf n hi).1
            rw [World.cell?_setCell_same w _ _ hy]; rfl
          · rw [World.cell?_setCell_other w _ _ _ (by intro hh; injection hh with _ h3; exact hij h3)]; exact (hf i hi).1
    have h2 := Soft.sets r (n + 1) (xs ++ [u]) _ h1 (by simp only [List.length_cons] at hcp; omega)
    show Soft ((w.setCell ⟨g, n, none⟩ u).setCells g (n + 1) r) _ _ _ _
    rw [show n + (u :: r).length = n + 1 + r.length by simp only [List.length_cons]; omega]
    simpa using h2
/-- append. -/
theorem wpList_append_soft {P : Program} (w : World) {ops : Array Oper} {rest : List Oper} {o : Oper} {a : Act} {Q : Exit → Act → World → Prop}
    (hg : o.guard = none) (s x : Operand) (t : TypeId) (hop : o.op = Op.call { callee := Callee.builtin Builtin.append, args := #[s, x], argTypes := #[t, t] })
    (B : Nat) (e : TypeId) (i : TypeInfo) (z : Value) (bytes : Nat) (h1 : P.underlying t = some (.slice e)) (h2 : P.info? e = some i) (h3 : i.zero = some z) (h4 : i.size = 1) (h5 : i.bytes = bytes) (h6 : z.cells.size = 1)
    (v : Value) (n : Nat) (xs : List Value) (hs : a.eval s = v) (hsoft : Soft w B v n xs)
    (ad : Addr) (m c : Nat) (news : List Value) (hx : a.eval x = .slice (some ad) m c) (hn : news.length = m) (hc : ∀ j u, news[j]? = some u → w.cell? (ad.add j) = some u) (h1c : ∀ u ∈ news, u.oneCell' = true)
    (b1 : n + m ≤ maxLen) (b2 : (n + m) * bytes ≤ 140737488355328) (hB : B ≤ w.heap.size)
    (hK : ∀ v' w', Soft w' B v' (n + m) (xs ++ news) → w.grownBy w' v.ownBlock → wpList P ops Q rest (a.put o.dst v') w') : wpList P ops Q (o :: rest) a w := by
  obtain ⟨hl, hv⟩ := hsoft
  rcases hv with ⟨rfl, rfl⟩ | ⟨g, cap, rfl, hBg, hlt, hncap, hcm, hcell, hfree⟩
  · obtain rfl : xs = [] := List.eq_nil_of_length_eq_zero hl
    refine wpList_append_own w hg s x t hop B e i z 1 bytes h1 h2 h3 h4 h5 h6 (by decide) _ 0 [] hs (World.ownsRow_nil _ _ _ _) ad m c news hx (by omega) hc h1c b1 b2 hB ?_
    intro v' w' ho hgr _
    exact hK v' w' (Soft.of_own ho) hgr
  · refine wpList_append_arg w hg s x t hop e i z 1 bytes h1 h2 h3 h4 h5 h6 (by decide) g 0 n cap xs hs (by omega) (fun j u hj => by rw [Nat.zero_add]; exact hcell j u hj) ad m c news hx (by omega) hc h1c (fun hr j hj => ?_) b1 b2 (fun hr => ?_) (fun hr v' w' ho hgr => ?_)
    · rw [Nat.zero_add, Nat.mul_one]; exact hfree (n + j) (by omega)
    · rw [Nat.zero_add, Nat.mul_one]
      have h0 : Soft w B (.slice (some ⟨g, 0, none⟩) n cap) n xs := ⟨hl, .inr ⟨g, cap, rfl, hBg, hlt, hncap, hcm, hcell, hfree⟩⟩
      have hss := Soft.sets news n xs w h0 (by omega)
      rw [hn] at hss
      exact hK _ _ hss (grown_sets g news n w)
    · refine hK v' w' ?_ ⟨hgr.os, hgr.tape, hgr.output, hgr.size, fun k hk _ => hgr.block k hk (by simp)⟩
      have h2 := Soft.of_own ho
      refine ⟨h2.1, ?_⟩
      rcases h2.2 with h3 | ⟨g', cap', e1, e2, e3⟩
      · exact .inl h3
      · exact .inr ⟨g', cap', e1, Nat.le_trans hB e2, e3⟩
/-- What []byte(s) lays. -/
theorem Soft.bytes (w : World) (e : TypeId) (s : ByteArray) (h : s.size ≤ maxLen) : Soft (Lib.bytesWorld w e s) w.heap.size (.slice (some ⟨w.heap.size, 0, none⟩) s.size (grownCap w s.size 0 e)) s.size (s.data.toList.map fun b => .int .u8 (b.toNat : Int)) := by
  have hsz : (Lib.bytesCells w e s).size = s.size + (grownCap w s.size 0 e - s.size) := by
    unfold Lib.bytesCells; simp
  have hge := grownCap_ge w s.size 0 e
  refine ⟨by rw [List.length_map, U.len_data], .inr ⟨w.heap.size, _, rfl, Nat.le_refl _, by rw [Lib.bytesWorld_size]; omega, hge, grownCap_le_maxLen w s.size 0 e h, (fun j u hj => ?_), (fun j hj => ⟨?_, ?_⟩)⟩⟩
  · have hlt : j < s.size := by
      rcases Nat.lt_or_ge j s.size with h' | h'
      · exact h'
      · rw [List.getElem?_eq_none (by rw [List.length_map, U.len_data]; exact h')] at hj; cases hj
    rw [Lib.bytesWorld_cell w e s j hlt]
    rw [List.getElem?_map] at hj
    rw [List.getD_eq_getElem?_getD]
    rw [List.getElem?_eq_getElem (by rw [U.len_data]; exact hlt)] at hj ⊢
    simpa using hj
  · simp only [World.cell?, Lib.bytesWorld_at_new]
    rw [if_neg (by simp), Array.getElem?_eq_getElem (by omega)]; rfl
  · simp [World.frozen?, Lib.bytesWorld_at_new]
    omega
end Go.Proofs.YtpjkbamkaicoiaaDoor.U
end
