/- Slices, lengths, copies, conversions, what may be nil, new rows: the machine's and the model's. -/
import Derived.Test.YtakfoidmabendaaDoorEvH
set_option linter.unusedVariables false
set_option linter.unusedSimpArgs false
namespace Go.Proofs.YtakfoidmabendaaDoor.E
section
variable {P : Program} {Fr : Prot} {G : Nat} {σ : Nm}

/-! ### slices -/
def OR (σ : Nm) : Option Value → Option Value → Prop
  | none, none => True
  | some v, some r => VR σ v r
  | _, _ => False
def bnd (v : Option Value) (d y : Nat) : Option Nat := match v with
  | none => some d
  | some (.int _ i) => if 0 ≤ i ∧ i ≤ (y : Int) then some i.toNat else none
  | _ => none
theorem run_bound {k : IntKind} {i : Int} {y : Nat} {code : BoundsCode} (h : 0 ≤ i ∧ i ≤ (y : Int)) (w : World) : (Instr.sliceBound (.int k i) y code).run P w = .ok i.toNat w := by
  unfold Instr.sliceBound
  simp [asIntOf, pure, Sem.run, bind, Sem.bind, h]
theorem bnd_le {v : Option Value} {d y n : Nat} (h : bnd v d y = some n) (hd : d ≤ y) : n ≤ y := by
  unfold bnd at h
  split at h
  · cases h; exact hd
  · split at h
    · cases h; omega
    · cases h
  · cases h
theorem run_bounds {sl : Bool} {len cap cap' : Nat} {lo hi lo' hi' : Option Value} {l h : Nat} (h1 : bnd hi len cap = some h) (h2 : bnd lo 0 h = some l) (hc : cap ≤ cap') (r1 : OR σ lo lo') (r2 : OR σ hi hi') (w : World) :
    (Instr.sliceBounds sl len cap' lo' hi' none).run P w = .ok (l, h, cap') w := by
  unfold Instr.sliceBounds bnd at *
  have key : ∀ (v v' : Option Value) (d y y' m : Nat) (code : BoundsCode), (match v with | none => some d | some (.int _ i) => if 0 ≤ i ∧ i ≤ (y : Int) then some i.toNat else none | _ => none) = some m → OR σ v v' → y ≤ y' →
      (v = none ∧ v' = none ∧ m = d) ∨ ∃ k i, v' = some (.int k i) ∧ 0 ≤ i ∧ i ≤ (y' : Int) ∧ m = i.toNat := by
    intro v v' d y y' m code h r hy
    cases v with
    | none => cases v' with
      | none => simp at h; exact .inl ⟨rfl, rfl, h.symm⟩
      | some x => exact r.elim
    | some x => cases v' with
      | none => exact r.elim
      | some x' =>
        right
        cases x <;> try (simp at h; done)
        rename_i k i
        cases r
        simp only at h
        split at h
        · rename_i hb; cases h; exact ⟨k, i, rfl, hb.1, by omega, rfl⟩
        · cases h
  rcases key hi hi' len cap cap' h .index h1 r2 hc with ⟨rfl, rfl, rfl⟩ | ⟨k, i, rfl, a1, a2, rfl⟩ <;>
  rcases key lo lo' 0 _ _ l .index h2 r1 (Nat.le_refl _) with ⟨rfl, rfl, rfl⟩ | ⟨k', i', rfl, b1, b2, rfl⟩
  · simp [pure, Sem.run, bind, Sem.bind]
  · simp [pure, Sem.run, bind, Sem.bind, Sem.run_bind', run_bound (P := P) ⟨b1, b2⟩]
  · simp [pure, Sem.run, bind, Sem.bind, Sem.run_bind', run_bound (P := P) ⟨a1, a2⟩]
  · simp [pure, Sem.run, bind, Sem.bind, Sem.run_bind', run_bound (P := P) ⟨a1, a2⟩, run_bound (P := P) ⟨b1, b2⟩]

def sliceE (P : Program) (t : TypeId) (x : Value) (lo hi : Option Value) : Ev Value :=
  match P.underlying t, x with
  | some (.slice elem), .slice (some ⟨n, o, none⟩) len c => match P.info? elem with
    | some j => match Nat.blt c softCap with
      | true => match bnd hi len c with
        | some h => match bnd lo 0 h with
          | some l => .pure (.slice (some ⟨n, match Nat.beq c l with | true => o | false => o + l * j.size, none⟩) (h - l) (c - l))
          | none => .fail
        | none => .fail
      | false => match bnd hi len len with
        | some h => match bnd lo 0 h with
          | some 0 => .pure (.slice (some ⟨n, o, none⟩) h c)
          | some l => match Nat.blt l h with
            | true => .pure (.slice (some ⟨n, o + l * j.size, none⟩) (h - l) (softCap + (c - softCap + l)))
            | false => .fail
          | none => .fail
        | none => .fail
    | none => .fail
  | some (.array m elem), .pointer (some ⟨n, o, none⟩) => match P.info? elem with
    | some j => match Nat.blt m softCap with
      | true => match bnd hi m m with
        | some h => match bnd lo 0 h with
          | some l => .pure (.slice (some ⟨n, match Nat.beq m l with | true => o | false => o + l * j.size, none⟩) (h - l) (m - l))
          | none => .fail
        | none => .fail
      | false => .fail
    | none => .fail
  | _, _ => .fail
theorem framed_sliceE (P : Program) (t : TypeId) (x : Value) (lo hi : Option Value) : Framed (sliceE P t x lo hi) := by
  unfold sliceE
  (repeat' split) <;> first | exact framed_pure _ | exact framed_fail

theorem vr_cut {n o l h c size : Nat} {p : Place} (hσ : σ n = some p) (hc : c < softCap) :
    VR σ (.slice (some ⟨n, match Nat.beq c l with | true => o | false => o + l * size, none⟩) (h - l) (c - l)) (.slice (if c = l then some ⟨p.b, p.base + o, none⟩ else some (Addr.add ⟨p.b, p.base + o, none⟩ (l * size))) (h - l) (c - l)) := by
  by_cases e : c = l
  · rw [if_pos e]
    have : Nat.beq c l = true := by rw [e]; exact Nat.beq_refl _
    rw [this]
    exact .slc hσ (by omega)
  · rw [if_neg e]
    have : Nat.beq c l = false := by
      cases hb : Nat.beq c l with
      | true => exact absurd (Nat.eq_of_beq_eq_true hb) e
      | false => rfl
    rw [this, add_none, Nat.add_assoc]
    exact .slc hσ (by omega)
theorem sim_sliceE {t : TypeId} {x y : Value} {lo hi lo' hi' : Option Value} (hx : VR σ x y) (h1 : OR σ lo lo') (h2 : OR σ hi hi') :
    Sim P Fr G σ (sliceE P t x lo hi) VR (runS P (Instr.sliceAt t y lo' hi' none)) := by
  unfold sliceE
  split
  · rename_i elem n o len c hu
    split <;> try exact sim_fail
    rename_i j hj
    cases hc : Nat.blt c softCap with
    | true =>
      have hc : c < softCap := by simpa [Nat.blt_eq] using hc
      simp only
      cases hh : bnd hi len c with
      | none => exact sim_fail
      | some h =>
        simp only
        cases hl : bnd lo 0 h with
        | none => exact sim_fail
        | some l =>
          have hs2 : ∃ p, σ n = some p ∧ y = .slice (some ⟨p.b, p.base + o, none⟩) len c := by
            cases hx with
            | slc hσ _ => exact ⟨_, hσ, rfl⟩
            | soft hσ h _ => omega
          obtain ⟨p, hσ, rfl⟩ := hs2
          refine sim_run (fun w => ?_) (vr_cut hσ hc)
          unfold Instr.sliceAt
          simp only [Sem.run_bind, Go.run_underlying hu, Result.andThen_ok, Instr.slice, run_bounds (P := P) hh hl (Nat.le_refl _) h1 h2, run_sizeOf hj]
          rfl
    | false =>
      have hc : softCap ≤ c := by
        rcases Nat.lt_or_ge c softCap with h | h
        · rw [show Nat.blt c softCap = true from Nat.ble_eq_true_of_le h] at hc; cases hc
        · exact h
      simp only
      have hs2 : ∃ p c' i, σ n = some p ∧ c = softCap + i ∧ c' + i = p.cap ∧ len ≤ c' ∧ y = .slice (some ⟨p.b, p.base + o, none⟩) len c' := by
        cases hx with
        | slc hσ h => omega
        | soft hσ h1 h2 => exact ⟨_, _, _, hσ, rfl, h1, h2, rfl⟩
      obtain ⟨p, c', i, hσ, rfl, hci, hlc, rfl⟩ := hs2
      cases hh : bnd hi len len with
      | none => exact sim_fail
      | some h =>
        simp only
        have hhl := bnd_le hh (Nat.le_refl _)
        have hrun : ∀ l, bnd lo 0 h = some l → ∀ w, (Instr.sliceAt t (.slice (some ⟨p.b, p.base + o, none⟩) len c') lo' hi' none).run P w =
            .ok (.slice (if c' = l then some ⟨p.b, p.base + o, none⟩ else some (Addr.add ⟨p.b, p.base + o, none⟩ (l * j.size))) (h - l) (c' - l)) w := by
          intro l hl w
          have hh' : bnd hi len c' = some h := by
            unfold bnd at hh ⊢
            split at hh
            · exact hh
            · split at hh
              · rename_i hb; rw [if_pos ⟨hb.1, by omega⟩]; exact hh
              · cases hh
            · cases hh
          unfold Instr.sliceAt
          simp only [Sem.run_bind, Go.run_underlying hu, Result.andThen_ok, Instr.slice, run_bounds (P := P) hh' hl (Nat.le_refl _) h1 h2, run_sizeOf hj]
          rfl
        cases hl : bnd lo 0 h with
        | none => exact sim_fail
        | some l =>
          have hll := bnd_le hl (Nat.zero_le _)
          cases l with
          | zero =>
            refine sim_run (hrun 0 hl) ?_
            have e : (if c' = 0 then some (⟨p.b, p.base + o, none⟩ : Addr) else some (Addr.add ⟨p.b, p.base + o, none⟩ (0 * j.size))) = some ⟨p.b, p.base + o, none⟩ := by
              split <;> simp [add_none]
            rw [e]
            simp only [Nat.sub_zero]
            exact .soft hσ hci (by omega)
          | succ l =>
            simp only
            cases hlt : Nat.blt (l + 1) h with
            | false => exact sim_fail
            | true =>
              have hlt : l + 1 < h := by simpa [Nat.blt_eq] using hlt
              refine sim_run (hrun (l + 1) hl) ?_
              rw [if_neg (by omega), add_none, Nat.add_sub_cancel_left, Nat.add_assoc]
              exact .soft hσ (by omega) (by omega)
  · rename_i m elem n o hu
    split <;> try exact sim_fail
    rename_i j hj
    cases hc : Nat.blt m softCap with
    | false => exact sim_fail
    | true =>
      have hc : m < softCap := by simpa [Nat.blt_eq] using hc
      simp only
      cases hh : bnd hi m m with
      | none => exact sim_fail
      | some h =>
        simp only
        cases hl : bnd lo 0 h with
        | none => exact sim_fail
        | some l =>
          cases hx with
          | ptr hσ =>
            rename_i p
            refine sim_run (d := .slice (if m = l then some ⟨p.b, p.base + o, none⟩ else some (Addr.add ⟨p.b, p.base + o, none⟩ (l * j.size))) (h - l) (m - l)) (fun w => ?_) (vr_cut hσ hc)
            unfold Instr.sliceAt
            simp only [Sem.run_bind, Go.run_underlying hu, Result.andThen_ok, run_bounds (P := P) hh hl (Nat.le_refl _) h1 h2, run_sizeOf hj, Instr.sureAddr, pure, Sem.run]
            by_cases e : m = l <;> simp [e]
  · exact sim_fail

/-! ### lengths, what may be nil -/
def lenV : Value → Option Nat
  | .slice _ n _ => some n
  | .string b => some b.size
  | _ => none
def lenE (P : Program) (t : TypeId) (x : Value) : Ev Value :=
  match P.underlying t, x with
  | some (.slice _), .slice _ n _ => .pure (.int .i64 n)
  | _, _ => .fail
theorem framed_lenE (P : Program) (t : TypeId) (x : Value) : Framed (lenE P t x) := by
  unfold lenE
  (repeat' split) <;> first | exact framed_pure _ | exact framed_fail
theorem sim_lenE {t ty : TypeId} {x y : Value} (hx : VR σ x y) : Sim P Fr G σ (lenE P t x) VR (runS P (Builtin.len_ #[t] ty #[y])) := by
  unfold lenE
  split
  · rename_i e a n c hu
    have : ∀ a' c', Sim P Fr G σ (Ev.pure (Value.int .i64 n)) VR (runS P (Builtin.len_ #[t] ty #[.slice a' n c'])) := fun a' c' =>
      sim_run (d := .int .i64 n) (fun w => by simp [Builtin.len_, Sem.run_bind, Go.run_underlying hu, goInt, pure, Sem.run]) (.int _ _)
    cases hx <;> exact this _ _
  · exact sim_fail

/-- Against nil. -/
def nilV : Value → Value → Option Bool
  | .pointer none, .pointer b => some b.isNone
  | .pointer (some _), .pointer none => some false
  | .slice none _ _, .slice b _ _ => some b.isNone
  | .slice (some _) _ _, .slice none _ _ => some false
  | .nilFunc, .func _ _ _ | .func _ _ _, .nilFunc => some false
  | _, _ => none
def fits : TypeDesc → Value → Bool
  | .pointer _, .pointer _ | .slice _, .slice _ _ _ | .func _ _ _, .nilFunc | .func _ _ _, .func _ _ _ => true
  | _, _ => false
def eqE (P : Program) (neg : Bool) (t : TypeId) (x y : Value) : Ev Value :=
  match P.underlying t, nilV x y with
  | some d, some b => match fits d x with
    | true => .pure (.bool (cond neg (!b) b))
    | false => .fail
  | _, _ => .fail
theorem framed_eqE (P : Program) (neg : Bool) (t : TypeId) (x y : Value) : Framed (eqE P neg t x y) := by
  unfold eqE
  (repeat' split) <;> first | exact framed_pure _ | exact framed_fail
theorem run_eq_nil {t : TypeId} {d : TypeDesc} {x y x' y' : Value} {b : Bool} (hu : P.underlying t = some d) (hb : nilV x y = some b) (hf : fits d x = true) (hx : VR σ x x') (hy : VR σ y y') (w : World) :
    (Op.equal t x' y').run P w = .ok b w := by
  unfold Op.equal
  rw [show Op.maxDepth = 9999 + 1 from rfl]
  unfold Op.equalIn
  rw [show (underlying t >>= _) = (underlying t).bind _ from rfl, Sem.run_bind', Go.run_underlying hu]
  simp only [Result.andThen_ok]
  cases hx <;> cases hy <;> simp [nilV] at hb <;> subst hb <;> cases d <;> simp [fits] at hf <;> rfl
theorem sim_eqE {op : BinOp} {neg : Bool} (hop : (op = .eql ∧ neg = false) ∨ (op = .neq ∧ neg = true)) {t : TypeId} {ox oy : Operand} {x y x' y' : Value} (hx : VR σ x x') (hy : VR σ y y') :
    Sim P Fr G σ (eqE P neg t x y) VR (runS P (do eqGuard op t ox oy x' y'; binOp op t x' y')) := by
  unfold eqE
  split <;> try exact sim_fail
  rename_i d b hu hb
  cases hf : fits d x with
  | false => exact sim_fail
  | true =>
    have hr := run_eq_nil hu hb hf hx hy
    refine sim_run (d := .bool (cond neg (!b) b)) (fun w => ?_) (.bool _)
    have hg : ∀ w, (eqGuard op t ox oy x' y').run P w = .ok () w := by
      intro w
      rcases hop with ⟨rfl, rfl⟩ | ⟨rfl, rfl⟩ <;> cases hx <;> cases hy <;> simp [nilV] at hb <;> rfl
    rw [Sem.run_bind, hg w]
    simp only [Result.andThen_ok]
    have hbin : binOp op t x' y' = (Op.equal t x' y').bind fun q => Sem.pure (.bool (cond neg (!q) q)) := by
      rcases hop with ⟨rfl, rfl⟩ | ⟨rfl, rfl⟩ <;> cases hx <;> cases hy <;> simp [nilV] at hb <;> rfl
    rw [hbin, Sem.run_bind', hr w]
    rfl
end
end Go.Proofs.YtakfoidmabendaaDoor.E
