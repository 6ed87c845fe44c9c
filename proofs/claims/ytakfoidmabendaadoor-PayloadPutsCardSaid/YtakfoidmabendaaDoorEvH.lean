/- append, copy, conversions of bytes, on both sides. -/
import Derived.Test.YtakfoidmabendaaDoorEvG
import Derived.Laws.BytesString
import Derived.Laws.MakeOwn
set_option linter.unusedVariables false
set_option linter.unusedSimpArgs false
namespace Go.Proofs.YtakfoidmabendaaDoor.E
section
variable {P : Program} {Fr : Prot} {G : Nat} {σ : Nm}

theorem storeCells_row {b : Nat} {e : TypeId} {fz : Nat × Nat} : ∀ (ys : List Value) (i off : Nat) (w : World) (c : Array Value), w.heap[b]? = some (.cells c e fz) →
    (∀ o, o < c.size → ¬ (fz.1 ≤ o ∧ o < fz.2)) → off + i + ys.length ≤ c.size → (∀ y ∈ ys, flat y = true) →
    ∃ w' c', (storeCells ⟨b, off, none⟩ ys i).run P w = .ok () w' ∧ w'.heap[b]? = some (.cells c' e fz) ∧ c'.size = c.size ∧ (∀ k, k ≠ b → w'.heap[k]? = w.heap[k]?) ∧ w'.heap.size = w.heap.size ∧
      w'.os = w.os ∧ w'.tape = w.tape ∧ w'.output = w.output ∧ (∀ j, c'[j]? = if off + i ≤ j ∧ j < off + i + ys.length then ys[j - (off + i)]? else c[j]?) := by
  intro ys
  induction ys with
  | nil => intro i off w c hw _ _ _; exact ⟨w, c, rfl, hw, rfl, fun _ _ => rfl, rfl, rfl, rfl, rfl, fun j => by rw [if_neg (by simp)]⟩
  | cons y ys ih =>
    intro i off w c hw hz hl hf
    simp only [List.length_cons] at hl
    have hlt : off + i < c.size := by omega
    have hcell : w.cell? ⟨b, off + i, none⟩ = some c[off + i] := by simp [World.cell?, hw, hlt]
    have hfz : w.frozen? ⟨b, off + i, none⟩ = false := by
      have := hz (off + i) hlt
      simp only [not_and] at this
      simp only [World.frozen?, hw, Bool.and_eq_false_iff, decide_eq_false_iff_not]
      by_cases h1 : fz.1 ≤ off + i
      · exact .inr (this h1)
      · exact .inl h1
    have hg := @setCell_get w b (off + i) y c e fz hw
    obtain ⟨w', c', h1, h2, h3, h4, h5, h6, h7, h8, h9⟩ := ih (i + 1) off (w.setCell ⟨b, off + i, none⟩ y) (c.setIfInBounds (off + i) y) (by rw [hg, if_pos rfl]) (by simpa using hz) (by simp; omega) (fun u hu => hf u (by simp [hu]))
    refine ⟨w', c', ?_, h2, by simpa using h3, fun k hk => by rw [h4 k hk, hg, if_neg hk], by rw [h5]; simp [World.setCell], h6, h7, h8, fun j => ?_⟩
    · unfold storeCells
      rw [show (store _ y >>= _) = (store (Addr.add ⟨b, off, none⟩ i) y).bind _ from rfl, Sem.run_bind', add_none, run_store (hf y (by simp)) hcell hfz]
      exact h1
    · rw [h9 j]
      by_cases e1 : j = off + i
      · subst e1
        rw [if_neg (by omega), if_pos (by simp)]
        simp [Array.getElem?_setIfInBounds, hlt]
      · by_cases e2 : off + i + 1 ≤ j ∧ j < off + i + 1 + ys.length
        · rw [if_pos (by omega), if_pos (by simp; omega), show j - (off + i) = (j - (off + (i + 1))) + 1 from by omega]
          simp
        · rw [if_neg (by omega), if_neg (by simp; omega), Array.getElem?_setIfInBounds_ne (by omega)]

def newSoft (elem : TypeId) (cells : List Value) (need : Nat) : Ev Value := (new ⟨cells, elem, true, false⟩).bind fun f => .pure (.slice (some ⟨f, 0, none⟩) need softCap)
theorem framed_newSoft (elem : TypeId) (cells : List Value) (need : Nat) : Framed (newSoft elem cells need) := framed_bind (framed_new _) fun _ => framed_pure _
theorem newSoft_eq (elem : TypeId) (cells : List Value) (need : Nat) (H : Tr) (s : Sup) :
    newSoft elem cells need H s = some ⟨.slice (some ⟨s.name, 0, none⟩) need softCap, Tr.put (s.name + 1) H s.name (some ⟨cells, elem, true, false⟩), ⟨s.name + 1, s.ora⟩, [], [] ++ []⟩ := by
  simp [newSoft, Ev.bind, new_eq, Ev.pure]

/-- A row that grew: a new one on both sides. -/
theorem rel_grow {H : Tr} {w w' : World} (hR : Rel P Fr G σ H w) {n : Nat} (hn : σ n = none) (hG : G ≤ n) {elem : TypeId} {j : TypeInfo} (hj : P.info? elem = some j)
    {xs ys zs : List Value} (hxy : LR σ xs ys) {len K : Nat} (hys : ys.length = len * j.size) (hK : len ≤ K) (hzs : zs.length = (K - len) * j.size)
    (hh : w'.heap = w.heap.push (.cells (ys ++ zs).toArray elem (0, 0))) (ho : w'.os = w.os) (ht : w'.tape = w.tape) (hp : w'.output = w.output) :
    ∃ τ, Aft σ τ n (n + 1) ∧ Rel P Fr G τ (Tr.put (n + 1) H n (some ⟨xs, elem, true, false⟩)) w' ∧ Out Fr w w' ∧ VR τ (.slice (some ⟨n, 0, none⟩) len softCap) (.slice (some ⟨w.heap.size, 0, none⟩) len K) := by
  obtain ⟨τ, h1, h2, h3, h4⟩ := rel_new hR hn hG (B := ⟨xs, elem, true, false⟩) (c := (ys ++ zs).toArray) K (0, 0) (by intro o _; simp) (by have := hxy.1; simp; omega)
    (fun _ => by
      have : (ys ++ zs).length = K * j.size := by
        rw [List.length_append, hys, hzs, ← Nat.add_mul]; congr 1; omega
      simp only [List.size_toArray, this, Program.cellsOf, hj]; rfl)
    (fun o v hv => by
      obtain ⟨r, hr, x⟩ := hxy.get hv
      refine ⟨r, ?_, x⟩
      have hlt : o < ys.length := by
        rcases Nat.lt_or_ge o ys.length with h | h
        · exact h
        · simp [List.getElem?_eq_none h] at hr
      simpa [List.getElem?_append, hlt] using hr) hh ho ht hp
  refine ⟨τ, h1, h3, h4, ?_⟩
  have := VR.soft (o := 0) (i := 0) (l := len) (c := K) h2 (by simp) hK
  simpa using this

def appendE (P : Program) (t u : TypeId) (s x : Value) : Ev Value :=
  match P.underlying t, P.underlying u with
  | some (.slice elem), some du => match P.info? elem, notInt du with
    | some j, true => match j.zero with
      | some z => match Nat.beq z.cells.size j.size && Nat.ble j.bytes 4096 && Nat.blt 0 j.size with
        | true => (readsE j.size x).bind fun q => match Nat.ble q.1 16384 && q.2.all flat with
          | true => match s with
            | .slice none 0 0 => match q.1 with
              | 0 => .pure (.slice none 0 0)
              | _ + 1 => newSoft elem q.2 q.1
            | .slice (some ⟨m, o, none⟩) len c => match Nat.ble len 1048576 with
              | true => match Nat.blt c softCap with
                | true => match Nat.ble (len + q.1) c with
                  | true => (wrs m (o + len * j.size) q.2).bind fun _ => .pure (.slice (some ⟨m, o, none⟩) (len + q.1) c)
                  | false => (rds m o (len * j.size)).bind fun l => newSoft elem (l ++ q.2) (len + q.1)
                | false => match q.1 with
                  | 0 => .pure (.slice (some ⟨m, o, none⟩) len c)
                  | _ + 1 => (kill m).bind fun B => match B.soft && Nat.beq o ((c - softCap) * j.size) && Nat.ble (o + len * j.size) B.cells.length && Nat.beq B.elem elem with
                    | true => newSoft elem ((B.cells.drop o).take (len * j.size) ++ q.2) (len + q.1)
                    | false => .fail
              | false => .fail
            | _ => .fail
          | false => .fail
        | false => .fail
      | none => .fail
    | _, _ => .fail
  | _, _ => .fail
theorem framed_appendE (P : Program) (t u : TypeId) (s x : Value) : Framed (appendE P t u s x) := by
  unfold appendE
  split <;> try exact framed_fail
  split <;> try exact framed_fail
  split <;> try exact framed_fail
  split <;> try exact framed_fail
  refine framed_bind (framed_readsE _ _) fun q => ?_
  split <;> try exact framed_fail
  split <;> try exact framed_fail
  · split
    · exact framed_pure _
    · exact framed_newSoft _ _ _
  · split <;> try exact framed_fail
    split
    · split
      · exact framed_bind (framed_wrs _ _ _) fun _ => framed_pure _
      · exact framed_bind (framed_rds _ _ _) fun _ => framed_newSoft _ _ _
    · split
      · exact framed_pure _
      · refine framed_bind (framed_kill _) fun B => ?_
        split
        · exact framed_newSoft _ _ _
        · exact framed_fail

theorem LR.append {a b c d : List Value} (h : LR σ a b) (k : LR σ c d) : LR σ (a ++ c) (b ++ d) := by
  refine ⟨by simp [h.1, k.1], fun i v r hv hr => ?_⟩
  rw [List.getElem?_append] at hv hr
  by_cases hi : i < a.length
  · rw [if_pos hi] at hv; rw [if_pos (h.1 ▸ hi)] at hr; exact h.2 i v r hv hr
  · rw [if_neg hi] at hv; rw [if_neg (h.1 ▸ hi)] at hr; rw [h.1] at hv; exact k.2 _ v r hv hr
theorem zeroCells_len (z : Array Value) (n : Nat) : (Builtin.zeroCells z n).toList.length = n * z.size := by simp [Builtin.zeroCells]
theorem LR.flat_of {a b : List Value} (h : LR σ a b) (hf : a.all flat = true) : ∀ y ∈ b, flat y = true := by
  intro y hy
  obtain ⟨i, hi, rfl⟩ := List.getElem_of_mem hy
  have hi' : i < a.length := by rw [h.1]; exact hi
  rw [(h.2 i a[i] b[i] (by simp [hi']) (by simp [hi])).flat]
  exact List.all_eq_true.1 hf _ (by simp)

theorem grow_case {t u ty elem : TypeId} {du : TypeDesc} {j : TypeInfo} {z : Value} {base : Option Addr} {y : Value} {len c n : Nat} {xs ys olds olds' : List Value} {H : Tr} {w : World}
    (ht : P.underlying t = some (.slice elem)) (hu : P.underlying u = some du) (hni : notInt du = true) (hj : P.info? elem = some j) (hz : j.zero = some z)
    (hzs : z.cells.size = j.size) (hb : j.bytes ≤ 4096) (hR : Rel P Fr G σ H w) (hlen : ∀ w', (Builtin.lenOf y).run P w' = .ok n w')
    (hf : ∀ w', w'.heap = w.heap → (Builtin.firstCells j.size n y).run P w' = .ok ys.toArray w') (hxy : LR σ xs ys) (hyl : ys.length = n * j.size)
    (hfo : ∀ w', w'.heap = w.heap → (Builtin.firstCells j.size len (.slice base len c)).run P w' = .ok olds'.toArray w') (hoo : LR σ olds olds') (hol : olds'.length = len * j.size)
    (hg : c < len + n) (h63 : len + n ≤ 2 ^ 24) {s : Sup} (hn : σ s.name = none) (hG : G ≤ s.name) :
    runS P (Builtin.append_ #[t, u] ty #[.slice base len c, y]) w fun v w' => ∃ τ, Aft σ τ s.name (s.name + 1) ∧ Rel P Fr G τ (Tr.put (s.name + 1) H s.name (some ⟨olds ++ xs, elem, true, false⟩)) w' ∧
      Out Fr w w' ∧ VR τ (.slice (some ⟨s.name, 0, none⟩) (len + n) softCap) v := by
  have hrun := run_append_grow' (P := P) (ty := ty) (w := w) ht hu hni hj hz hlen (hf w.drew rfl) (hfo w.drew rfl) hg h63 hb
  have hK := grownCap_ge w (len + n) c elem
  generalize grownCap w (len + n) c elem = K at hrun hK
  obtain ⟨τ, a1, a2, a3, a4⟩ := rel_grow (P := P) (w' := w.drew.alloc (.cells (olds'.toArray ++ ys.toArray ++ Builtin.zeroCells z.cells (K - (len + n))) elem)) hR hn hG hj
    (hoo.append hxy) (zs := (Builtin.zeroCells z.cells (K - (len + n))).toList) (len := len + n) (K := K) (by rw [List.length_append, hol, hyl, Nat.add_mul]) hK (by rw [zeroCells_len, hzs])
    (by show w.heap.push _ = w.heap.push _; congr 2; apply Array.ext'; simp) rfl rfl rfl
  exact ⟨_, _, hrun, τ, a1, a2, a3, a4⟩

theorem sim_appendE {t u ty : TypeId} {s s' x y : Value} (hs : VR σ s s') (hx : VR σ x y) : Sim P Fr G σ (appendE P t u s x) VR (runS P (Builtin.append_ #[t, u] ty #[s', y])) := by
  unfold appendE
  split <;> try exact sim_fail
  rename_i elem du ht hu
  split <;> try exact sim_fail
  rename_i j hj hni
  split <;> try exact sim_fail
  rename_i z hz
  split <;> try exact sim_fail
  rename_i hchk
  simp only [Bool.and_eq_true, Nat.ble_eq, Nat.blt_eq] at hchk
  obtain ⟨⟨hzs, hb⟩, hsz⟩ := hchk
  have hzs : z.cells.size = j.size := Nat.eq_of_beq_eq_true hzs
  intro H sp r w hr hn hR hf hG
  obtain ⟨r₁, r₂, h₁, h₂, rfl⟩ := bind_eq hr
  obtain ⟨e1, e2, ys, hLR, hyl, hlen, hfirst⟩ := reads_real hx hR h₁
  rw [e1, e2] at h₂
  obtain ⟨⟨n, xs⟩, Hx, sx, lx, px⟩ := r₁
  simp only at e1 e2 hLR hyl hlen hfirst h₂ hf hn ⊢
  subst e1 e2
  have hq : (Nat.ble n 16384 && xs.all flat) = true := by
    cases hq : (Nat.ble n 16384 && xs.all flat) with
    | true => rfl
    | false => simp [hq, Ev.fail] at h₂
  simp only [hq] at h₂
  simp only [Bool.and_eq_true, Nat.ble_eq] at hq
  obtain ⟨hq1, hq2⟩ := hq
  have hyf := hLR.flat_of hq2
  split at h₂ <;> try (simp [Ev.fail] at h₂; done)
  · cases hs
    split at h₂
    · simp only [Ev.pure, Option.some.injEq] at h₂
      subst h₂
      have hrun := run_append_room' (P := P) (ty := ty) (base := none) (len := 0) (c := 0) (n := 0) (w := w) (w' := w) ht hu hni hj hlen (hfirst w rfl) (Nat.le_refl _) rfl
      exact ⟨_, w, hrun, σ, .refl .., hR, .refl .., .nils _ _⟩
    · rename_i q
      rw [newSoft_eq, Option.some.injEq] at h₂
      subst h₂
      have := grow_case (P := P) (ty := ty) (base := none) (len := 0) (c := 0) (olds := []) (olds' := []) (s := sx) ht hu hni hj hz hzs hb hR hlen hfirst hLR hyl (fun w' _ => by simp [Builtin.firstCells, pure, Sem.run]) (.nil _) (by simp) (by omega) (by omega)
        (hf _ ⟨Nat.le_refl _, Nat.lt_succ_self _⟩) hG
      obtain ⟨v, w', hrun, τ, a1, a2, a3, a4⟩ := this
      simp only [Nat.zero_add, List.nil_append] at a2 a4
      exact ⟨v, w', hrun, τ, a1, a2, a3, a4⟩
  · rename_i m o len c
    have hlb : Nat.ble len 1048576 = true := by
      cases hq : Nat.ble len 1048576 with
      | true => rfl
      | false => simp [hq, Ev.fail] at h₂
    simp only [hlb] at h₂
    simp only [Nat.ble_eq] at hlb
    cases hc : Nat.blt c softCap with
    | true =>
      simp only [hc] at h₂
      simp only [Nat.blt_eq] at hc
      have hs2 : ∃ p, σ m = some p ∧ s' = .slice (some ⟨p.b, p.base + o, none⟩) len c := by
        cases hs with
        | slc hσ _ => exact ⟨_, hσ, rfl⟩
        | soft hσ h _ => omega
      obtain ⟨p, hσ, rfl⟩ := hs2
      cases hroom : Nat.ble (len + n) c with
      | true =>
        simp only [hroom] at h₂
        simp only [Nat.ble_eq] at hroom
        obtain ⟨r₃, r₄, h₃, h₄, rfl⟩ := bind_eq h₂
        simp only [Ev.pure, Option.some.injEq] at h₄
        subst h₄
        simp only at hf hn ⊢
        obtain ⟨_, w', hst, τ, a1, a2, a3, _⟩ := sim_wrs hσ xs ys (o + len * j.size) 0 (p.base + o + len * j.size) hLR (List.all_eq_true.1 hq2) (by omega) Hx sx r₃ w h₃ (all_app (all_app hn).2).1 hR hf hG
        have hrun := run_append_room' (P := P) (ty := ty) (base := some ⟨p.b, p.base + o, none⟩) (len := len) (c := c) (n := n) (w := w) (w' := w') ht hu hni hj hlen (hfirst w rfl) hroom (by simp only [add_none]; exact hst)
        exact ⟨_, w', hrun, τ, a1, a2, a3, .slc (a1.keep _ _ hσ) hc⟩
      | false =>
        simp only [hroom] at h₂
        have hroom : c < len + n := by
          rcases Nat.lt_or_ge c (len + n) with h | h
          · exact h
          · rw [Nat.ble_eq_true_of_le h] at hroom; cases hroom
        obtain ⟨r₃, r₄, h₃, h₄, rfl⟩ := bind_eq h₂
        rw [newSoft_eq, Option.some.injEq] at h₄
        subst h₄
        simp only at hf hn ⊢
        obtain ⟨b1, b2, olds', b3, b4, b5⟩ := rds_real hσ hR _ _ _ _ h₃
        obtain ⟨l₃, H₃, s₃, g₃, p₃⟩ := r₃
        simp only at b1 b2 b3 hf hn ⊢
        subst b1 b2
        have := grow_case (P := P) (ty := ty) (base := some ⟨p.b, p.base + o, none⟩) (len := len) (c := c) (s := s₃) ht hu hni hj hz hzs hb hR hlen hfirst hLR hyl
          (fun w' hw' => run_firstCells_some w' j.size len _ len c olds' b4 fun k v hk => by have := b5 k v hk; rw [add_none]; simpa [World.cell?, hw'] using this) b3 b4 hroom (by omega)
          (hf _ ⟨Nat.le_refl _, Nat.lt_succ_self _⟩) hG
        exact this
    | false =>
      simp only [hc] at h₂
      have hc : softCap ≤ c := by
        rcases Nat.lt_or_ge c softCap with h | h
        · rw [show Nat.blt c softCap = true from Nat.ble_eq_true_of_le h] at hc; cases hc
        · exact h
      have hs2 : ∃ p c' i, σ m = some p ∧ c = softCap + i ∧ c' + i = p.cap ∧ len ≤ c' ∧ s' = .slice (some ⟨p.b, p.base + o, none⟩) len c' := by
        cases hs with
        | slc hσ h => omega
        | soft hσ h1 h2 => exact ⟨_, _, _, hσ, rfl, h1, h2, rfl⟩
      obtain ⟨p, c', i, hσ, rfl, hci, hlc, rfl⟩ := hs2
      split at h₂
      · simp only [Ev.pure, Option.some.injEq] at h₂
        subst h₂
        have hy0 : ys = [] := List.eq_nil_of_length_eq_zero (by simpa using hyl)
        subst hy0
        have hrun := run_append_room' (P := P) (ty := ty) (base := some ⟨p.b, p.base + o, none⟩) (len := len) (c := c') (n := 0) (w := w) (w' := w) (news := []) ht hu hni hj hlen (hfirst w rfl) (by omega) rfl
        exact ⟨_, w, hrun, σ, .refl .., hR, .refl .., .soft hσ hci hlc⟩
      · rename_i n'
        clear hr h₁
        generalize n'.succ = n at *
        obtain ⟨r₃, r₄, h₃, h₄, rfl⟩ := bind_eq h₂
        obtain ⟨B, hB, hro, rfl⟩ := kill_eq h₃
        simp only at h₄ hf hn ⊢
        have hchk : (B.soft && Nat.beq o ((softCap + i - softCap) * j.size) && Nat.ble (o + len * j.size) B.cells.length && Nat.beq B.elem elem) = true := by
          cases hq : (B.soft && Nat.beq o ((softCap + i - softCap) * j.size) && Nat.ble (o + len * j.size) B.cells.length && Nat.beq B.elem elem) with
          | true => rfl
          | false => rw [hq] at h₄; cases h₄
        simp only [hchk] at h₄
        simp only [Bool.and_eq_true, Nat.ble_eq, Nat.add_sub_cancel_left] at hchk
        obtain ⟨⟨⟨k1, k2⟩, k3⟩, k4⟩ := hchk
        have k2 : o = i * j.size := Nat.eq_of_beq_eq_true k2
        have k4 : B.elem = elem := Nat.eq_of_beq_eq_true k4
        rw [newSoft_eq, Option.some.injEq] at h₄
        subst h₄
        simp only at hf hn ⊢
        obtain ⟨q, c, fz, hq, hw, hz', hl, hsf, hcells, hrr⟩ := hR.blk m B hB
        rw [hσ] at hq; cases hq
        have hsf := hsf k1
        have hcell : P.cellsOf B.elem = j.size := by rw [k4]; simp [Program.cellsOf, hj]
        rw [hcell] at hsf
        have hget1 : ∀ k, (Tr.put (m + 1) Hx m none).get k = if k = m then none else Hx.get k := fun k => Tr.get_put _ _ _ _ _ (Nat.lt_succ_self m)
        -- the memory without the old row
        have hR1 : Rel P Fr G σ (Tr.put (m + 1) Hx m none) w := by
          refine ⟨hR.glob, fun k C hC => ?_, fun k l C D pk pl hC hD => ?_, hR.prot⟩
          · rw [hget1] at hC
            by_cases e : k = m
            · rw [if_pos e] at hC; cases hC
            · rw [if_neg e] at hC; exact hR.blk k C hC
          · rw [hget1] at hC hD
            by_cases e : k = m
            · rw [if_pos e] at hC; cases hC
            · rw [if_neg e] at hC
              by_cases e' : l = m
              · rw [if_pos e'] at hD; cases hD
              · rw [if_neg e'] at hD; exact hR.apart k l C D pk pl hC hD
        -- the cells that are kept
        have hold : ∃ olds', LR σ ((B.cells.drop o).take (len * j.size)) olds' ∧ olds'.length = len * j.size ∧ ∀ (k : Nat) (v : Value), olds'[k]? = some v → c[p.base + o + k]? = some v := by
          refine ⟨((c.toList.drop (p.base + o)).take (len * j.size)), ⟨?_, fun k v x hv hx => ?_⟩, ?_, fun k v hk => ?_⟩
          · simp [Nat.min_def]; split <;> split <;> omega
          · rw [List.getElem?_take] at hv hx
            split at hv
            · rw [if_pos (by assumption)] at hx
              rw [List.getElem?_drop] at hv hx
              obtain ⟨x', hx', hvx⟩ := hcells (o + k) v hv
              rw [← Nat.add_assoc] at hx'
              simp only [Array.getElem?_toList] at hx
              rw [hx'] at hx; cases hx; exact hvx
            · cases hv
          · simp [Nat.min_def]; omega
          · rw [List.getElem?_take] at hk
            split at hk
            · simpa [List.getElem?_drop] using hk
            · cases hk
        obtain ⟨olds', b3, b4, b5⟩ := hold
        by_cases hroom : len + n ≤ c'
        · -- in place
          have hmul : (len + n) * j.size ≤ c' * j.size := Nat.mul_le_mul_right _ hroom
          have hcap : p.cap * j.size = c' * j.size + i * j.size := by rw [← hci, Nat.add_mul]
          rw [Nat.add_mul] at hmul
          have hfits : p.base + o + len * j.size + 0 + ys.length ≤ c.size := by omega
          obtain ⟨w', c2, g1, g2, g3, g4, g5, g6, g7, g8, g9⟩ := storeCells_row (P := P) ys 0 (p.base + o + len * j.size) w c hw hz' hfits hyf
          have hrun := run_append_room' (P := P) (ty := ty) (base := some ⟨p.b, p.base + o, none⟩) (len := len) (c := c') (n := n) (w := w) (w' := w') ht hu hni hj hlen (hfirst w rfl) hroom (by simp only [add_none]; exact g1)
          have hfn : σ sx.name = none := hf _ ⟨Nat.le_refl _, Nat.lt_succ_self _⟩
          let τ : Nm := fun k => if k = sx.name then some ⟨p.b, p.base + o, p.cap - i⟩ else σ k
          have hsub : Sub σ τ := fun k q h => by
            by_cases e : k = sx.name
            · subst e; rw [hfn] at h; cases h
            · simp only [τ, if_neg e]; exact h
          have hτn : τ sx.name = some ⟨p.b, p.base + o, p.cap - i⟩ := by simp only [τ, if_pos rfl]
          have hτ : ∀ k, k ≠ sx.name → τ k = σ k := fun k e => by simp only [τ, if_neg e]
          have hnotb : ∀ k C q, k ≠ m → Hx.get k = some C → σ k = some q → q.b ≠ p.b := fun k C q hk hC hq e => by
            have := (hR.apart k m C B q p hC hB hk hq hσ e).2.1
            rw [k1] at this; cases this
          have hget2 : ∀ k, (Tr.put (sx.name + 1) (Tr.put (m + 1) Hx m none) sx.name (some ⟨(B.cells.drop o).take (len * j.size) ++ xs, elem, true, false⟩)).get k =
              if k = sx.name then some ⟨(B.cells.drop o).take (len * j.size) ++ xs, elem, true, false⟩ else if k = m then none else Hx.get k := fun k => by
            rw [Tr.get_put _ _ _ _ _ (Nat.lt_succ_self _), hget1]
          refine ⟨_, w', hrun, τ, ⟨hsub, fun k q h => ?_⟩, ⟨fun g hg => ?_, fun k C hC => ?_, fun k l C D pk pl hC hD hne hk hl' hb' => ?_, fun b hb => by rw [g4 b (fun e => hrr hro (by rw [← e]; exact hb))]; exact hR.prot b hb⟩, ⟨g6, g7, g8, by omega, fun b hb => g4 b (fun e => hrr hro (by rw [← e]; exact hb))⟩, ?_⟩
          · by_cases e : k = sx.name
            · exact .inr ⟨by rw [e]; exact Nat.le_refl _, by rw [e]; exact Nat.lt_succ_self _⟩
            · rw [hτ k e] at h; exact .inl h
          · rw [hτ g (by have : G ≤ sx.name := hG; omega)]; exact hR.glob g hg
          · rw [hget2] at hC
            by_cases e : k = sx.name
            · subst e
              rw [if_pos rfl] at hC; cases hC
              refine ⟨_, c2, fz, hτn, by rw [g2, k4], by rw [g3]; exact hz', ?_, fun _ => ?_, fun q v hv => ?_, fun _ => hrr hro⟩
              · have := hLR.1
                simp [Nat.min_def]
                split <;> omega
              · simp only [Program.cellsOf, hj, Option.map_some, Option.getD_some]
                have : (p.cap - i) * j.size = c' * j.size := by congr 1; omega
                omega
              · have hLL := b3.append hLR
                obtain ⟨x', hx', hvx⟩ := hLL.get hv
                refine ⟨x', ?_, hvx.sub hsub⟩
                rw [g9]
                rw [List.getElem?_append, b4] at hx'
                by_cases hq' : q < len * j.size
                · rw [if_pos hq'] at hx'
                  rw [if_neg (by simp only; omega)]
                  exact b5 q x' hx'
                · rw [if_neg hq'] at hx'
                  have hlt : q - len * j.size < ys.length := by
                    rcases Nat.lt_or_ge (q - len * j.size) ys.length with h | h
                    · exact h
                    · simp [List.getElem?_eq_none h] at hx'
                  rw [if_pos (by simp only; omega)]
                  rw [← hx']; congr 1; simp only; omega
            · rw [if_neg e] at hC
              by_cases em : k = m
              · rw [if_pos em] at hC; cases hC
              · rw [if_neg em] at hC
                obtain ⟨q, cc, fz', hq, hw', hz'', hl'', hs'', hcells', hr'⟩ := hR.blk k C hC
                refine ⟨q, cc, fz', by rw [hτ k e]; exact hq, by rw [g4 _ (hnotb k C q em hC hq)]; exact hw', hz'', hl'', hs'', fun o v hv => ?_, hr'⟩
                obtain ⟨x', hx', hvx⟩ := hcells' o v hv
                exact ⟨x', hx', hvx.sub hsub⟩
          · rw [hget2] at hC hD
            by_cases ek : k = sx.name
            · subst ek
              have el : l ≠ sx.name := Ne.symm hne
              rw [if_neg el] at hD
              by_cases em : l = m
              · rw [if_pos em] at hD; cases hD
              · rw [if_neg em] at hD
                rw [hτ l el] at hl'
                rw [hτn] at hk; cases hk
                exact absurd hb'.symm (hnotb l D pl em hD hl')
            · rw [if_neg ek] at hC
              by_cases em : k = m
              · rw [if_pos em] at hC; cases hC
              · rw [if_neg em] at hC
                rw [hτ k ek] at hk
                by_cases el : l = sx.name
                · subst el
                  rw [hτn] at hl'; cases hl'
                  exact absurd hb' (hnotb k C pk em hC hk)
                · rw [if_neg el] at hD
                  by_cases em' : l = m
                  · rw [if_pos em'] at hD; cases hD
                  · rw [if_neg em'] at hD
                    rw [hτ l el] at hl'
                    exact hR.apart k l C D pk pl hC hD hne hk hl' hb'
          · have := VR.soft (o := 0) (i := 0) (l := len + n) (c := c') hτn (by simp only; omega) hroom
            simpa using this
        · -- grown
          have hroom : c' < len + n := by omega
          exact grow_case (P := P) (ty := ty) (base := some ⟨p.b, p.base + o, none⟩) (len := len) (c := c') (s := sx) ht hu hni hj hz hzs hb hR1 hlen hfirst hLR hyl
            (fun w' hw' => run_firstCells_some w' j.size len _ len c' olds' b4 fun k v hk => by have := b5 k v hk; rw [add_none]; simp [World.cell?, hw', hw, this]) b3 b4 hroom (by omega)
            (hf _ ⟨Nat.le_refl _, Nat.lt_succ_self _⟩) hG
end
end Go.Proofs.YtakfoidmabendaaDoor.E
