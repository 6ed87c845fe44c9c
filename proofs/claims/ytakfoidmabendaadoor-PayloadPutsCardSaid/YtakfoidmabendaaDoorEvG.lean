/- append, on both sides. -/
import Derived.Test.YtakfoidmabendaaDoorEvF
import Derived.Laws.Append
import Derived.Laws.AppendOwn
set_option linter.unusedVariables false
set_option linter.unusedSimpArgs false
namespace Go.Proofs.YtakfoidmabendaaDoor.E
section
variable {P : Program} {Fr : Prot} {G : Nat} {σ : Nm}

theorem bind_eq {α β : Type} {e : Ev α} {f : α → Ev β} {H : Tr} {s : Sup} {r : Res β} (h : e.bind f H s = some r) :
    ∃ r₁ r₂, e H s = some r₁ ∧ f r₁.val r₁.hp r₁.sup = some r₂ ∧ r = ⟨r₂.val, r₂.hp, r₂.sup, r₁.log ++ r₂.log, r₁.need ++ r₂.need⟩ := by
  unfold Ev.bind at h
  cases h₁ : e H s with
  | none => simp [h₁] at h
  | some r₁ =>
    obtain ⟨a, H₁, s₁, l₁, p₁⟩ := r₁
    simp only [h₁] at h
    cases h₂ : f a H₁ s₁ with
    | none => simp [h₂] at h
    | some r₂ =>
      obtain ⟨b, H₂, s₂, l₂, p₂⟩ := r₂
      simp only [h₂, Option.some.injEq] at h
      exact ⟨_, _, rfl, h₂, h.symm⟩

/-- Cells that the machine read are the model's. -/
theorem rds_real {n : Nat} {p : Place} (hσ : σ n = some p) {H : Tr} {w : World} (hR : Rel P Fr G σ H w) : ∀ (k o : Nat) (s : Sup) (r : Res (List Value)), rds n o k H s = some r →
    r.hp = H ∧ r.sup = s ∧ ∃ l, LR σ r.val l ∧ l.length = k ∧ ∀ (j : Nat) (v : Value), l[j]? = some v → w.cell? ⟨p.b, p.base + o + j, none⟩ = some v := by
  intro k
  induction k with
  | zero => intro o s r h; simp only [rds, Ev.pure, Option.some.injEq] at h; subst h; exact ⟨rfl, rfl, [], .nil _, rfl, by simp⟩
  | succ k ih =>
    intro o s r h
    unfold rds at h
    obtain ⟨r₁, r₂, h₁, h₂, rfl⟩ := bind_eq h
    obtain ⟨r₃, r₄, h₃, h₄, rfl⟩ := bind_eq h₂
    simp only [Ev.pure, Option.some.injEq] at h₄
    subst h₄
    unfold rd at h₁
    cases hc : cell H n o with
    | none => simp [hc] at h₁
    | some v =>
      simp only [hc, Option.some.injEq] at h₁
      subst h₁
      obtain ⟨B, hB, hv⟩ := cell_some hc
      obtain ⟨q, c, fz, hq, hw, hz, hl, hs, hcells, hro⟩ := hR.blk n B hB
      rw [hσ] at hq; cases hq
      obtain ⟨x, hx, hvx⟩ := hcells o v hv
      obtain ⟨a1, a2, l, a3, a4, a5⟩ := ih (o + 1) s r₃ h₃
      refine ⟨a1, a2, x :: l, LR.cons hvx a3, by simp [a4], fun j u hu => ?_⟩
      cases j with
      | zero => simp at hu; subst hu; simp [World.cell?, hw, hx]
      | succ j => simp at hu; have := a5 j u hu; rw [show p.base + o + (j + 1) = p.base + (o + 1) + j from by omega]; exact this

def readsE (size : Nat) : Value → Ev (Nat × List Value)
  | .slice (some ⟨m, q, none⟩) n _ => (rds m q (n * size)).bind fun l => .pure (n, l)
  | .slice none 0 _ => .pure (0, [])
  | .string b => match Nat.beq size 1 with
    | true => .pure (b.size, b.data.toList.map fun c => .int .u8 c.toNat)
    | false => .fail
  | _ => .fail
theorem framed_readsE (size : Nat) (v : Value) : Framed (readsE size v) := by
  unfold readsE
  (repeat' split) <;> first | exact framed_bind (framed_rds _ _ _) fun _ => framed_pure _ | exact framed_pure _ | exact framed_fail
theorem reads_real {size : Nat} {x y : Value} (hxy : VR σ x y) {H : Tr} {w : World} (hR : Rel P Fr G σ H w) {s : Sup} {r : Res (Nat × List Value)} (h : readsE size x H s = some r) :
    r.hp = H ∧ r.sup = s ∧ ∃ l, LR σ r.val.2 l ∧ l.length = r.val.1 * size ∧ (∀ w', (Builtin.lenOf y).run P w' = .ok r.val.1 w') ∧
      ∀ w', w'.heap = w.heap → (Builtin.firstCells size r.val.1 y).run P w' = .ok l.toArray w' := by
  unfold readsE at h
  split at h
  · rename_i m q n c
    obtain ⟨r₁, r₂, h₁, h₂, rfl⟩ := bind_eq h
    simp only [Ev.pure, Option.some.injEq] at h₂
    subst h₂
    have key : ∀ (p : Place) (c' : Nat), σ m = some p → r₁.hp = H ∧ r₁.sup = s ∧ ∃ l, LR σ r₁.val l ∧ l.length = n * size ∧ (∀ w', (Builtin.lenOf (.slice (some ⟨p.b, p.base + q, none⟩) n c')).run P w' = .ok n w') ∧
        ∀ w', w'.heap = w.heap → (Builtin.firstCells size n (.slice (some ⟨p.b, p.base + q, none⟩) n c')).run P w' = .ok l.toArray w' := by
      intro p c' hσ
      obtain ⟨a1, a2, l, a3, a4, a5⟩ := rds_real hσ hR _ _ _ _ h₁
      refine ⟨a1, a2, l, a3, a4, fun w' => rfl, fun w' hw' => ?_⟩
      refine run_firstCells_some w' size n _ n c' l a4 fun j v hj => ?_
      have := a5 j v hj
      rw [add_none]
      simpa [World.cell?, hw'] using this
    cases hxy with
    | slc hσ hc => exact key _ _ hσ
    | soft hσ hc hl => exact key _ _ hσ
  · rename_i c
    simp only [Ev.pure, Option.some.injEq] at h
    subst h
    cases hxy
    exact ⟨rfl, rfl, [], .nil _, by simp, fun w' => rfl, fun w' _ => by simp [Builtin.firstCells, pure, Sem.run]⟩
  · rename_i b
    cases hb : Nat.beq size 1 with
    | false => simp [hb, Ev.fail] at h
    | true =>
      simp only [hb, Ev.pure, Option.some.injEq] at h
      subst h
      cases hxy
      have : size = 1 := Nat.eq_of_beq_eq_true hb
      subst this
      refine ⟨rfl, rfl, b.data.toList.map fun c => .int .u8 c.toNat, ⟨rfl, fun i v r hv hr => ?_⟩, by simp only [List.length_map, Nat.mul_one]; rfl, fun w' => rfl, fun w' _ => ?_⟩
      · rw [hv] at hr; cases hr
        simp at hv
        obtain ⟨c, hc, rfl⟩ := hv
        exact .int _ _
      · simp only [Builtin.firstCells, pure, Sem.run]
        have e : b.extract 0 b.size = b := ByteArray.extract_zero_size
        rw [e]
        congr 1
        apply Array.ext'
        simp
  · simp [Ev.fail] at h

def notInt : TypeDesc → Bool
  | .slice _ | .string => true
  | _ => false
theorem notInt_spec {d : TypeDesc} (h : notInt d = true) : (∃ e, d = .slice e) ∨ d = .string := by
  cases d with
  | slice e => exact .inl ⟨e, rfl⟩
  | string => exact .inr rfl
  | _ => simp [notInt] at h

theorem run_append_room' {t u ty elem : TypeId} {du : TypeDesc} {j : TypeInfo} {base : Option Addr} {x : Value} {len c n : Nat} {news : List Value} {w w' : World}
    (ht : P.underlying t = some (.slice elem)) (hu : P.underlying u = some du) (hn : notInt du = true) (hj : P.info? elem = some j)
    (hlen : ∀ w', (Builtin.lenOf x).run P w' = .ok n w') (hf : (Builtin.firstCells j.size n x).run P w = .ok news.toArray w) (hroom : len + n ≤ c)
    (hst : match base with | none => w' = w | some a => (storeCells (a.add (len * j.size)) news).run P w = .ok () w') :
    (Builtin.append_ #[t, u] ty #[.slice base len c, x]).run P w = .ok (.slice base (len + n) c) w' := by
  cases base with
  | none =>
    simp only at hst; subst hst
    rcases notInt_spec hn with ⟨e, rfl⟩ | rfl <;> simp [Builtin.append_, Go.run_underlying ht, Go.run_underlying hu, sizeOf, typeInfo, hj, hlen, hroom, hf]
  | some a =>
    rcases notInt_spec hn with ⟨e, rfl⟩ | rfl <;> simp [Builtin.append_, Go.run_underlying ht, Go.run_underlying hu, sizeOf, typeInfo, hj, hlen, hroom, hf, hst]

theorem run_append_grow' {t u ty elem : TypeId} {du : TypeDesc} {j : TypeInfo} {z : Value} {base : Option Addr} {x : Value} {len c n : Nat} {olds news : List Value} {w : World}
    (ht : P.underlying t = some (.slice elem)) (hu : P.underlying u = some du) (hn : notInt du = true) (hj : P.info? elem = some j) (hz : j.zero = some z)
    (hlen : ∀ w', (Builtin.lenOf x).run P w' = .ok n w') (hf : (Builtin.firstCells j.size n x).run P w.drew = .ok news.toArray w.drew)
    (hfo : (Builtin.firstCells j.size len (.slice base len c)).run P w.drew = .ok olds.toArray w.drew) (hg : c < len + n) (h63 : len + n ≤ 2 ^ 24) (hb : j.bytes ≤ 4096) :
    (Builtin.append_ #[t, u] ty #[.slice base len c, x]).run P w =
      .ok (.slice (some ⟨w.heap.size, 0, none⟩) (len + n) (grownCap w (len + n) c elem))
        (w.drew.alloc (.cells (olds.toArray ++ news.toArray ++ Builtin.zeroCells z.cells (grownCap w (len + n) c elem - (len + n))) elem)) := by
  have hn' : ¬ (len + n ≤ c) := by omega
  have h63' : ¬ (9223372036854775807 < ((len : Int) + (n : Int))) := by omega
  have h48' : ¬ (281474976710656 < Builtin.nextslicecap (len + n) c * j.bytes) := by
    have : (len + n) * j.bytes ≤ 140737488355328 := Nat.le_trans (Nat.mul_le_mul h63 hb) (by decide)
    have := growslice_fits hg this
    omega
  rcases notInt_spec hn with ⟨e, rfl⟩ | rfl <;>
    (simp [Builtin.append_, Go.run_underlying ht, Go.run_underlying hu, sizeOf, typeInfo, zeroValue, hj, hz, hlen, hn', h63', h48', Question.forced, hf, hfo, newRow, grownCap]
     try (congr 2; apply Array.ext'; simp [List.append_assoc]))
end
end Go.Proofs.YtakfoidmabendaaDoor.E
