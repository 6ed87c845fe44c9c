/- copy, conversions between strings and bytes, rows that are made. -/
import Derived.Test.YtakfoidmabendaaDoorEvI
import Derived.Laws.IdiomStrings
set_option linter.unusedVariables false
set_option linter.unusedSimpArgs false
namespace Go.Proofs.YtakfoidmabendaaDoor.E
section
variable {P : Program} {Fr : Prot} {G : Nat} {σ : Nm}

/-- The first elements. -/
def firstE (size n : Nat) : Value → Ev (List Value)
  | .slice (some ⟨m, q, none⟩) _ _ => rds m q (n * size)
  | .slice none _ _ => match n with
    | 0 => .pure []
    | _ => .fail
  | .string b => match Nat.beq size 1 && Nat.ble n b.size with
    | true => .pure ((b.data.toList.take n).map fun c => .int .u8 c.toNat)
    | false => .fail
  | _ => .fail
theorem framed_firstE (size n : Nat) (v : Value) : Framed (firstE size n v) := by
  unfold firstE
  (repeat' split) <;> first | exact framed_rds _ _ _ | exact framed_pure _ | exact framed_fail
theorem first_real {size n : Nat} {x y : Value} (hxy : VR σ x y) {H : Tr} {w : World} (hR : Rel P Fr G σ H w) {s : Sup} {r : Res (List Value)} (h : firstE size n x H s = some r) :
    r.hp = H ∧ r.sup = s ∧ ∃ l, LR σ r.val l ∧ l.length = n * size ∧ ∀ w', w'.heap = w.heap → (Builtin.firstCells size n y).run P w' = .ok l.toArray w' := by
  unfold firstE at h
  split at h
  · rename_i m q k c
    have key : ∀ (p : Place) (c' : Nat), σ m = some p → r.hp = H ∧ r.sup = s ∧ ∃ l, LR σ r.val l ∧ l.length = n * size ∧
        ∀ w', w'.heap = w.heap → (Builtin.firstCells size n (.slice (some ⟨p.b, p.base + q, none⟩) k c')).run P w' = .ok l.toArray w' := by
      intro p c' hσ
      obtain ⟨a1, a2, l, a3, a4, a5⟩ := rds_real hσ hR _ _ _ _ h
      refine ⟨a1, a2, l, a3, a4, fun w' hw' => ?_⟩
      refine run_firstCells_some w' size n _ k c' l a4 fun j v hj => ?_
      have := a5 j v hj
      rw [add_none]
      simpa [World.cell?, hw'] using this
    cases hxy with
    | slc hσ hc => exact key _ _ hσ
    | soft hσ hc hl => exact key _ _ hσ
  · rename_i k c
    split at h
    · simp only [Ev.pure, Option.some.injEq] at h
      subst h
      cases hxy
      exact ⟨rfl, rfl, [], .nil _, by simp, fun w' _ => by simp [Builtin.firstCells, pure, Sem.run]⟩
    · simp [Ev.fail] at h
  · rename_i b
    cases hb : (Nat.beq size 1 && Nat.ble n b.size) with
    | false => simp only [hb, Ev.fail] at h; cases h
    | true =>
      simp only [hb, Ev.pure, Option.some.injEq] at h
      subst h
      cases hxy
      simp only [Bool.and_eq_true, Nat.ble_eq] at hb
      obtain ⟨hb1, hb2⟩ := hb
      have : size = 1 := Nat.eq_of_beq_eq_true hb1
      subst this
      refine ⟨rfl, rfl, (b.data.toList.take n).map fun c => .int .u8 c.toNat, ⟨rfl, fun i v r hv hr => ?_⟩, ?_, fun w' _ => ?_⟩
      · rw [hv] at hr; cases hr
        rw [List.getElem?_map] at hv
        cases hq : (b.data.toList.take n)[i]? with
        | none => simp [hq] at hv
        | some c => simp only [hq, Option.map_some, Option.some.injEq] at hv; subst hv; exact .int _ _
      · have h3 : b.data.toList.length = b.size := rfl
        rw [List.length_map, List.length_take, h3]; omega
      · simp only [Builtin.firstCells, pure, Sem.run]
        congr 1
        apply Array.ext'
        have : (b.extract 0 n).data.toList = b.data.toList.take n := by
          rw [ByteArray.data_extract]; simp
        simp [this]
  · simp [Ev.fail] at h

def copyE (P : Program) (t : TypeId) (d s : Value) : Ev Value :=
  match P.underlying t, d, lenV s with
  | some (.slice elem), .slice (some ⟨m, o, none⟩) dl _, some sl => match P.info? elem with
    | some j => (firstE j.size (Nat.min sl dl) s).bind fun l => match l.all flat with
      | true => (wrs m o l).bind fun _ => .pure (.int .i64 (Nat.min sl dl))
      | false => .fail
    | none => .fail
  | _, _, _ => .fail
theorem framed_copyE (P : Program) (t : TypeId) (d s : Value) : Framed (copyE P t d s) := by
  unfold copyE
  split <;> try exact framed_fail
  split <;> try exact framed_fail
  refine framed_bind (framed_firstE _ _ _) fun l => ?_
  split
  · exact framed_bind (framed_wrs _ _ _) fun _ => framed_pure _
  · exact framed_fail
theorem sim_copyE {t u ty : TypeId} {d s d' s' : Value} (hd : VR σ d d') (hs : VR σ s s') : Sim P Fr G σ (copyE P t d s) VR (runS P (Builtin.copy_ #[t, u] ty #[d', s'])) := by
  unfold copyE
  split <;> try exact sim_fail
  rename_i elem m o dl c sl hu hlv
  split <;> try exact sim_fail
  rename_i j hj
  intro H sp r w hr hn hR hf hG
  obtain ⟨r₁, r₂, h₁, h₂, rfl⟩ := bind_eq hr
  obtain ⟨e1, e2, ys, hLR, hyl, hfirst⟩ := first_real hs hR h₁
  obtain ⟨xs, Hx, sx, lx, px⟩ := r₁
  simp only at e1 e2 hLR hfirst h₂ hf hn ⊢
  subst e1 e2
  have hfl : xs.all flat = true := by
    cases hq : xs.all flat with
    | true => rfl
    | false => rw [hq] at h₂; cases h₂
  rw [hfl] at h₂
  obtain ⟨r₃, r₄, h₃, h₄, rfl⟩ := bind_eq h₂
  simp only [Ev.pure, Option.some.injEq] at h₄
  subst h₄
  simp only at hf hn ⊢
  have hlen : ∀ w', (Builtin.lenOf s').run P w' = .ok sl w' := by
    intro w'
    cases hs <;> simp [lenV] at hlv <;> subst hlv <;> rfl
  have key : ∀ (p : Place) (c' : Nat), σ m = some p → runS P (Builtin.copy_ #[t, u] ty #[.slice (some ⟨p.b, p.base + o, none⟩) dl c', s']) w fun y w' =>
      ∃ τ, Aft σ τ sx.name r₃.sup.name ∧ Rel P Fr G τ r₃.hp w' ∧ Out Fr w w' ∧ VR τ (.int .i64 (Nat.min sl dl)) y := by
    intro p c' hσ
    obtain ⟨_, w', hst, τ, a1, a2, a3, _⟩ := sim_wrs hσ xs ys o 0 (p.base + o) hLR (List.all_eq_true.1 hfl) (by omega) Hx sx r₃ w h₃ (all_app (all_app hn).2).1 hR hf hG
    have hf2 := hfirst w rfl
    refine ⟨.int .i64 (Nat.min sl dl), w', ?_, τ, a1, a2, a3, .int _ _⟩
    simp [Builtin.copy_, Go.run_underlying hu, sizeOf, typeInfo, hj, hlen, hf2, hst, goInt]
  cases hd with
  | slc hσ _ => exact key _ _ hσ
  | soft hσ _ _ => exact key _ _ hσ

/-! ### strings and bytes -/
def byteOf? : Value → Option UInt8
  | .int .u8 n => some (UInt8.ofNat n.toNat)
  | _ => none
def bytesOf? : List Value → Option (List UInt8)
  | [] => some []
  | v :: l => match byteOf? v, bytesOf? l with
    | some b, some m => some (b :: m)
    | _, _ => none
theorem bytesOf_spec {σ : Nm} : ∀ (l l' : List Value) (bs : List UInt8), bytesOf? l = some bs → LR σ l l' → ∃ ns : List Int, l' = ns.map (Value.int .u8) ∧ bs = ns.map fun n => UInt8.ofNat n.toNat := by
  intro l
  induction l with
  | nil => intro l' bs h hl; cases l' with
    | nil => simp [bytesOf?] at h; exact ⟨[], rfl, by simp [h]⟩
    | cons => simp [LR] at hl
  | cons v l ih => intro l' bs h hl; cases l' with
    | nil => simp [LR] at hl
    | cons r l' =>
      have hv := hl.2 0 v r (by simp) (by simp)
      unfold bytesOf? at h
      cases v <;> try (simp [byteOf?] at h; done)
      rename_i k n
      cases k <;> try (simp [byteOf?] at h; done)
      cases hv
      simp only [byteOf?] at h
      cases hb : bytesOf? l with
      | none => simp [hb] at h
      | some m =>
        simp only [hb, Option.some.injEq] at h
        obtain ⟨ns, rfl, rfl⟩ := ih l' m hb ⟨by have := hl.1; simpa using this, fun i x y hx hy => hl.2 (i + 1) x y (by simpa using hx) (by simpa using hy)⟩
        exact ⟨n :: ns, rfl, by rw [← h]; rfl⟩
theorem foldl_push : ∀ (ns : List Int) (s : ByteArray), ns.foldl (fun r n => r.push (UInt8.ofNat n.toNat)) s = ⟨s.data ++ (ns.map fun n => UInt8.ofNat n.toNat).toArray⟩ := by
  intro ns
  induction ns with
  | nil => intro s; simp
  | cons n ns ih =>
    intro s
    rw [List.foldl_cons, ih]
    congr 1
    apply Array.ext'
    simp [ByteArray.push]
def convE (P : Program) (src dst : TypeId) (x : Value) : Ev Value :=
  match P.underlying src, P.underlying dst, x with
  | some (.slice e), some .string, .slice (some ⟨n, o, none⟩) len _ => match P.underlying e with
    | some (.int .u8) => (rds n o len).bind fun l => match bytesOf? l with
      | some bs => .pure (.string ⟨bs.toArray⟩)
      | none => .fail
    | _ => .fail
  | some .string, some (.slice e), .string b => match P.underlying e, P.info? e with
    | some (.int .u8), some j => match Nat.beq j.size 1 && Nat.ble b.size 1048576 with
      | true => newSoft e (b.data.toList.map fun c => .int .u8 c.toNat) b.size
      | false => .fail
    | _, _ => .fail
  | _, _, _ => .fail
theorem framed_convE (P : Program) (src dst : TypeId) (x : Value) : Framed (convE P src dst x) := by
  unfold convE
  split <;> try exact framed_fail
  · split <;> try exact framed_fail
    refine framed_bind (framed_rds _ _ _) fun l => ?_
    split <;> first | exact framed_pure _ | exact framed_fail
  · split <;> try exact framed_fail
    split <;> first | exact framed_newSoft _ _ _ | exact framed_fail
theorem sim_convE {src dst : TypeId} {x y : Value} (hx : VR σ x y) : Sim P Fr G σ (convE P src dst x) VR (runS P (convert src dst y)) := by
  unfold convE
  split <;> try exact sim_fail
  · rename_i e n o len c hs hd
    split <;> try exact sim_fail
    rename_i he
    intro H sp r w hr hn hR hf hG
    obtain ⟨r₁, r₂, h₁, h₂, rfl⟩ := bind_eq hr
    cases hb : bytesOf? r₁.val with
    | none => simp only [hb, Ev.fail] at h₂; cases h₂
    | some bs =>
      simp only [hb, Ev.pure, Option.some.injEq] at h₂
      subst h₂
      have key : ∀ (p : Place) (c' : Nat), σ n = some p → runS P (convert src dst (.slice (some ⟨p.b, p.base + o, none⟩) len c')) w fun y w' =>
          ∃ τ, Aft σ τ sp.name r₁.sup.name ∧ Rel P Fr G τ r₁.hp w' ∧ Out Fr w w' ∧ VR τ (.string ⟨bs.toArray⟩) y := by
        intro p c' hσ
        obtain ⟨a1, a2, l, a3, a4, a5⟩ := rds_real hσ hR _ _ _ _ h₁
        obtain ⟨ns, rfl, rfl⟩ := bytesOf_spec _ _ _ hb a3
        have hload : (loadCells ⟨p.b, p.base + o, none⟩ len).run P w = .ok (ns.map (Value.int .u8)).toArray w := by
          rw [← a4]
          exact run_loadCells_list w _ _ fun j v hj => by rw [add_none]; exact a5 j v hj
        refine ⟨_, w, by rw [run_convert_bytes_string w src dst e _ _ _ hs he hd, run_bytesToString w _ _ _ ns hload], σ, by rw [a2]; exact .refl .., by rw [a1]; exact hR, .refl .., ?_⟩
        rw [foldl_push]
        have : (ByteArray.empty.data ++ (ns.map fun n => UInt8.ofNat n.toNat).toArray) = (ns.map fun n => UInt8.ofNat n.toNat).toArray := by show (#[] : Array UInt8) ++ _ = _; exact Array.empty_append
        rw [this]
        exact .string _
      cases hx with
      | slc hσ hc => exact key _ _ hσ
      | soft hσ hc hl => exact key _ _ hσ
  · rename_i e b hs hd
    split <;> try exact sim_fail
    rename_i j he hj
    cases hb : (Nat.beq j.size 1 && Nat.ble b.size 1048576) with
    | false => exact sim_fail
    | true =>
      simp only [Bool.and_eq_true, Nat.ble_eq] at hb
      obtain ⟨hb1, hb2⟩ := hb
      have hsz : j.size = 1 := Nat.eq_of_beq_eq_true hb1
      cases hx
      intro H sp r w hr hn hR hf hG
      change newSoft e _ _ H sp = some r at hr
      rw [newSoft_eq, Option.some.injEq] at hr
      subst hr
      have hK := grownCap_ge w b.size 0 e
      have hrun := run_bytes_of_string (P := P) w src dst e b hs hd he
      generalize grownCap w b.size 0 e = K at hrun hK
      generalize hrow : bytesRow b K = row at hrun
      unfold bytesRow at hrow
      have hrs : row.size = K := by
        rw [← hrow]
        have h3 : b.data.size = b.size := rfl
        simp only [Array.size_append, Array.size_map, Array.size_replicate, h3]; omega
      have hfn : σ sp.name = none := hf _ ⟨Nat.le_refl _, Nat.lt_succ_self _⟩
      obtain ⟨τ, a1, a2, a3, a4⟩ := rel_new (P := P) (w' := w.drew.alloc (.cells row e (row.size, row.size + 1))) hR hfn hG (B := ⟨b.data.toList.map fun c => .int .u8 c.toNat, e, true, false⟩) (c := row) K (row.size, row.size + 1)
        (by intro o ho; simp only; omega) (by
          have h3 : b.data.toList.length = b.size := rfl
          simp only [List.length_map, h3, hrs]; omega) (fun _ => by simp only [Program.cellsOf, hj, Option.map_some, Option.getD_some, hsz, hrs]; omega)
        (fun o v hv => by
          refine ⟨v, ?_, ?_⟩
          · rw [← hrow]
            have hlt : o < (b.data.map fun c => Value.int .u8 c.toNat).size := by
              rcases Nat.lt_or_ge o (b.data.map fun c => Value.int .u8 c.toNat).size with h | h
              · exact h
              · rw [List.getElem?_eq_none (by simpa using h)] at hv; cases hv
            rw [Array.getElem?_append, if_pos hlt]
            simpa using hv
          · rw [List.getElem?_map] at hv
            cases hq : b.data.toList[o]? with
            | none => simp [hq] at hv
            | some c => simp only [hq, Option.map_some, Option.some.injEq] at hv; subst hv; exact .int _ _) rfl rfl rfl rfl
      refine ⟨_, _, hrun, τ, a1, a3, a4, ?_⟩
      have := VR.soft (o := 0) (i := 0) (l := b.size) (c := K) a2 (by simp) hK
      simpa using this

/-! ### rows that are made -/
def makeE (P : Program) (t : TypeId) (l c : Value) : Ev Value :=
  match P.underlying t, l, c with
  | some (.slice elem), .int _ l, .int _ c => match P.info? elem with
    | some j => match j.zero with
      | some z => match decide (0 ≤ l) && decide (l ≤ c) && decide (c ≤ 1048576) && Nat.ble j.bytes 4096 && z.cells.toList.all (plain 6) with
        | true => (new ⟨((Array.range (c.toNat * j.size)).map (z.cells[· % z.cells.size]!)).toList, elem, false, false⟩).bind fun n => .pure (.slice (some ⟨n, 0, none⟩) l.toNat c.toNat)
        | false => .fail
      | none => .fail
    | none => .fail
  | _, _, _ => .fail
theorem framed_makeE (P : Program) (t : TypeId) (l c : Value) : Framed (makeE P t l c) := by
  unfold makeE
  (repeat' split) <;> first | exact framed_bind (framed_new _) fun _ => framed_pure _ | exact framed_fail
theorem sim_makeE {t : TypeId} {l c l' c' : Value} (hl : VR σ l l') (hc : VR σ c c') : Sim P Fr G σ (makeE P t l c) VR (runS P (Instr.makeSlice t l' c')) := by
  unfold makeE
  split <;> try exact sim_fail
  rename_i elem kl l kc c hu
  split <;> try exact sim_fail
  rename_i j hj
  split <;> try exact sim_fail
  rename_i z hz
  cases hb : (decide (0 ≤ l) && decide (l ≤ c) && decide (c ≤ 1048576) && Nat.ble j.bytes 4096 && z.cells.toList.all (plain 6)) with
  | false => exact sim_fail
  | true =>
    simp only [Bool.and_eq_true, Nat.ble_eq, decide_eq_true_eq] at hb
    obtain ⟨⟨⟨⟨h1, h2⟩, h3⟩, h4⟩, h5⟩ := hb
    cases hl; cases hc
    intro H sp r w hr hn hR hf hG
    obtain ⟨r₁, r₂, g1, g2, rfl⟩ := bind_eq hr
    rw [new_eq, Option.some.injEq] at g1
    subst g1
    simp only [Ev.pure, Option.some.injEq] at g2
    subst g2
    have hrun := run_make (P := P) w t elem j z hu hj hz kl kc l c h1 h2 (by
      have : (j.bytes : Int) * c ≤ 4096 * 1048576 := Int.mul_le_mul (by omega) h3 (by omega) (by omega)
      omega) (by omega)
    have hfn : σ sp.name = none := hf _ ⟨Nat.le_refl _, Nat.lt_succ_self _⟩
    obtain ⟨τ, a1, a2, a3, a4⟩ := rel_new (P := P) (w' := w.alloc (.cells (madeCells z.cells (c.toNat * j.size)) elem)) hR hfn hG
      (B := ⟨((Array.range (c.toNat * j.size)).map (z.cells[· % z.cells.size]!)).toList, elem, false, false⟩) (c := madeCells z.cells (c.toNat * j.size)) 0 (0, 0)
      (by intro o _; simp) (by simp [madeCells]) (by simp) (fun o v hv => by
        have := (ar_cycle (σ := σ) h5 (c.toNat * j.size)).list.get hv
        obtain ⟨r, hr, x⟩ := this
        exact ⟨r, by simp only [madeCells]; rw [← Array.getElem?_toList]; exact hr, x⟩) rfl rfl rfl rfl
    refine ⟨_, _, hrun, τ, a1, a3, a4, ?_⟩
    have := VR.slc (o := 0) (l := l.toNat) (c := c.toNat) a2 (by unfold softCap; omega)
    simpa using this
end
end Go.Proofs.YtakfoidmabendaaDoor.E
