/- Contracts of functions of this translation, and what they come to; what is not used is left out. -/
import Derived.Test.YtpjkbamkaicoiaaDoorQBox
import Derived.Test.YtpjkbamkaicoiaaDoorQCls
import Derived.Test.YtpjkbamkaicoiaaDoorQUtil
import Derived.Test.YtpjkbamkaicoiaaDoorQg6

section
/- Worlds of a walk: blocks of its own, all new and all apart, with what they hold; what was there ahead is as it was. -/
set_option linter.unusedVariables false
set_option linter.unusedSimpArgs false
namespace Go.Proofs.YtpjkbamkaicoiaaDoor.U
open Go.RowKit
abbrev Blk := Nat × TypeId × Array Value
structure Own (w0 : World) (bs : List Blk) (w : World) : Prop where
  box : ∀ p ∈ bs, At p.1 p.2.1 p.2.2 w
  low : Below w0.heap.size w0 w
  old : ∀ p ∈ bs, w0.heap.size ≤ p.1
  nod : (bs.map (·.1)).Nodup
variable {w0 w w' : World} {bs : List Blk}
theorem Own.start (w : World) : Own w [] w := ⟨fun _ h => absurd h List.not_mem_nil, Below.refl _ _, fun _ h => absurd h List.not_mem_nil, List.nodup_nil⟩
theorem Own.at (h : Own w0 bs w) (i : Nat) {g : Nat} {T : TypeId} {cs : Array Value} (hi : bs[i]? = some (g, T, cs)) : At g T cs w := h.box _ (List.mem_of_getElem? hi)
theorem Own.ge (h : Own w0 bs w) (i : Nat) {g : Nat} {T : TypeId} {cs : Array Value} (hi : bs[i]? = some (g, T, cs)) : w0.heap.size ≤ g := h.old _ (List.mem_of_getElem? hi)
theorem Own.lt (h : Own w0 bs w) (i : Nat) {g : Nat} {T : TypeId} {cs : Array Value} (hi : bs[i]? = some (g, T, cs)) : g < w.heap.size := (h.at i hi).lt
theorem Own.cell (h : Own w0 bs w) (i k : Nat) {g : Nat} {T : TypeId} {cs : Array Value} {v : Value} (hi : bs[i]? = some (g, T, cs)) (hk : cs[k]? = some v) : w.cell? ⟨g, k, none⟩ = some v := (h.at i hi).cell k v hk
theorem Own.free (h : Own w0 bs w) (i k : Nat) {g : Nat} {T : TypeId} {cs : Array Value} (hi : bs[i]? = some (g, T, cs)) : w.frozen? ⟨g, k, none⟩ = false := (h.at i hi).free k
theorem Own.ne (h : Own w0 bs w) (i j : Nat) {g g' : Nat} {T T' : TypeId} {cs cs' : Array Value} (hi : bs[i]? = some (g, T, cs)) (hj : bs[j]? = some (g', T', cs')) (hij : i ≠ j) : ¬ g = g' := by
  intro e
  have h1 : (bs.map (·.1))[i]? = some g := by rw [List.getElem?_map, hi]; rfl
  have h2 : (bs.map (·.1))[j]? = some g := by rw [List.getElem?_map, hj, e]; rfl
  obtain ⟨hl, h1'⟩ := List.getElem?_eq_some_iff.1 h1
  obtain ⟨hl', h2'⟩ := List.getElem?_eq_some_iff.1 h2
  rcases Nat.lt_or_gt_of_ne hij with hlt | hlt
  · exact List.pairwise_iff_getElem.1 h.nod i j hl hl' hlt (h1'.trans h2'.symm)
  · exact List.pairwise_iff_getElem.1 h.nod j i hl' hl hlt (h2'.trans h1'.symm)
theorem Own.below (h : Own w0 bs w) (hb : Below w.heap.size w w') : Own w0 bs w' := ⟨fun p hp => (h.box p hp).below hb, h.low.trans (hb.mono h.low.size), h.old, h.nod⟩
theorem Own.drewN (h : Own w0 bs w) (n : Nat) : Own w0 bs (w.drewN n) := ⟨fun p hp => At.drewN (h.box p hp) n, below_drewN h.low n, h.old, h.nod⟩
theorem Own.drew (h : Own w0 bs w) : Own w0 bs w.drew := h.drewN 1
theorem Own.alloc (h : Own w0 bs w) (T : TypeId) (cs : Array Value) {g : Nat} (hg : g = w.heap.size) : Own w0 ((g, T, cs) :: bs) (w.alloc (.cells cs T)) := by
  subst hg
  refine ⟨fun p hp => ?_, h.low.alloc h.low.size _, fun p hp => ?_, ?_⟩
  · rcases List.mem_cons.1 hp with rfl | hp
    · exact At.new w _ _
    · exact (h.box p hp).alloc _
  · rcases List.mem_cons.1 hp with rfl | hp
    · exact h.low.size
    · exact h.old p hp
  · rw [List.map_cons, List.nodup_cons]
    refine ⟨fun hm => ?_, h.nod⟩
    obtain ⟨p, hp, he⟩ := List.mem_map.1 hm
    have h1 := (h.box p hp).lt
    have he' : p.1 = w.heap.size := he
    omega
/-- What a callee made is added. -/
theorem Own.call {new : List Blk} (h : Own w0 bs w) (k : Own w new w') : Own w0 (new ++ bs) w' := by
  have hb := h.below k.low
  refine ⟨fun p hp => ?_, hb.low, fun p hp => ?_, ?_⟩
  · rcases List.mem_append.1 hp with hp | hp
    · exact k.box p hp
    · exact hb.box p hp
  · rcases List.mem_append.1 hp with hp | hp
    · exact Nat.le_trans h.low.size (k.old p hp)
    · exact h.old p hp
  · rw [List.map_append, List.nodup_append]
    refine ⟨k.nod, h.nod, fun a ha b hb' e => ?_⟩
    obtain ⟨p, hp, rfl⟩ := List.mem_map.1 ha
    obtain ⟨q, hq, rfl⟩ := List.mem_map.1 hb'
    have h1 := k.old p hp
    have h2 := (h.box q hq).lt
    omega
theorem Own.put (h : Own w0 bs w) (i k : Nat) (v : Value) {g : Nat} {T : TypeId} {cs : Array Value} (hi : bs[i]? = some (g, T, cs)) : Own w0 (bs.set i (g, T, cs.setIfInBounds k v)) (w.setCell ⟨g, k, none⟩ v) := by
  have hlt : i < bs.length := (List.getElem?_eq_some_iff.1 hi).1
  have hmap : (bs.set i (g, T, cs.setIfInBounds k v)).map (·.1) = bs.map (·.1) := by
    rw [List.map_set]
    apply List.ext_getElem?
    intro j
    rw [List.getElem?_set]
    split
    · rename_i hj; subst hj
      rw [List.getElem?_map, hi]
      simp [hlt]
    · rfl
  refine ⟨fun p hp => ?_, h.low.setCell (p := ⟨g, k, none⟩) (h.ge i hi) v, fun p hp => ?_, by rw [hmap]; exact h.nod⟩
  · obtain ⟨j, hj⟩ := List.mem_iff_getElem?.1 hp
    rw [List.getElem?_set] at hj
    split at hj
    · rename_i hij; subst hij
      injection hj with hj
      subst hj
      exact (h.at i hi).set k v
    · rename_i hij
      obtain ⟨g', T', cs'⟩ := p
      exact (h.at j hj).other ⟨g, k, none⟩ v (h.ne j i hj hi (fun e => hij e.symm))
  · obtain ⟨j, hj⟩ := List.mem_iff_getElem?.1 hp
    rw [List.getElem?_set] at hj
    split at hj
    · rename_i hij; subst hij
      injection hj with hj
      subst hj
      exact h.ge i hi
    · exact h.old p (List.mem_of_getElem? hj)
/-- A struct's cells, laid one behind the other. -/
def fillW (w : World) (g : Nat) : Nat → List Value → World
  | _, [] => w
  | k, v :: r => fillW (w.setCell ⟨g, k, none⟩ v) g (k + 1) r
def fillC (cs : Array Value) : Nat → List Value → Array Value
  | _, [] => cs
  | k, v :: r => fillC (cs.setIfInBounds k v) (k + 1) r
theorem Own.fill : ∀ (vs : List Value) (k : Nat) {w : World} {bs : List Blk} (h : Own w0 bs w) (i : Nat) {g : Nat} {T : TypeId} {cs : Array Value} (hi : bs[i]? = some (g, T, cs)), Own w0 (bs.set i (g, T, fillC cs k vs)) (fillW w g k vs)
  | [], k, w, bs, h, i, g, T, cs, hi => by
    have e : bs.set i (g, T, cs) = bs := by
      apply List.ext_getElem?
      intro j
      rw [List.getElem?_set]
      split
      · rename_i hj; subst hj
        rw [if_pos (List.getElem?_eq_some_iff.1 hi).1, hi]
      · rfl
    unfold fillC fillW
    rw [e]; exact h
  | v :: r, k, w, bs, h, i, g, T, cs, hi => by
    have h1 := h.put i k v hi
    have hlt : i < bs.length := (List.getElem?_eq_some_iff.1 hi).1
    have h2 := Own.fill r (k + 1) h1 i (g := g) (T := T) (cs := cs.setIfInBounds k v) (by rw [List.getElem?_set, if_pos rfl, if_pos hlt])
    rw [List.set_set] at h2
    exact h2
/-- Some of the blocks, in an order of one's own. -/
theorem Own.pick (h : Own w0 bs w) (is : List Nat) (hn : is.Nodup) : Own w0 (is.filterMap (bs[·]?)) w := by
  have hm : ∀ p ∈ is.filterMap (bs[·]?), p ∈ bs := fun p hp => by
    obtain ⟨i, _, hi⟩ := List.mem_filterMap.1 hp
    exact List.mem_of_getElem? hi
  refine ⟨fun p hp => h.box p (hm p hp), h.low, fun p hp => h.old p (hm p hp), ?_⟩
  clear hm
  induction is with
  | nil => exact List.nodup_nil
  | cons i r ih =>
    rw [List.nodup_cons] at hn
    cases hi : bs[i]? with
    | none => rw [List.filterMap_cons_none hi]; exact ih hn.2
    | some p =>
      rw [List.filterMap_cons_some hi, List.map_cons, List.nodup_cons]
      refine ⟨fun hmem => ?_, ih hn.2⟩
      obtain ⟨q, hq, he⟩ := List.mem_map.1 hmem
      obtain ⟨j, hj, hjq⟩ := List.mem_filterMap.1 hq
      obtain ⟨g, T, cs⟩ := p
      obtain ⟨g', T', cs'⟩ := q
      exact h.ne j i hjq hi (fun e => hn.1 (e ▸ hj)) he
section
variable {P : Program} {md : Region.Mode} {ops : Array Oper} {Q : Exit → Act → World → Prop} {flag : Nat → Bool} {C : World → Prop}
/-- Reads, as soon as they may come, S being kept by whatever may come ahead of them (fl). -/
theorem wpAnyM_reads {n : Nat} {L : Array Bool} {w : World} {fl : List Nat} (hd : List Nat) (listed : Array Bool) (a : Act) (hsel : Region.noSelect ops = true) (hQ : ∀ c a d v w, Q (.panic c) (a.put d v) w → Q (.panic c) a w) (hC : C w)
    (inv : closedB md ops listed = true) (hB : ordHead md ops (fun l => decide (l = L)) hd listed = true)
    (hF : (List.range ops.size).all (fun j => fl.contains j || hd.all fun i => kindAt ops pureOp i || waitsT md ops ops.size j i) = true)
    (h : wpQuiet P ops C (fun a' => wpAnyM P md ops Q (fun j => fl.contains j) C n L a' w) (hd.filterMap (ops[·]?)) a) : wpAnyM P md ops Q (fun j => fl.contains j) C (hd.length + n) listed a w := by
  have key : ∀ (hd2 : List Nat), (∀ i ∈ hd2, i ∈ hd) → ∀ (listed : Array Bool) (a : Act), Closed md ops listed → ordHead md ops (fun l => decide (l = L)) hd2 listed = true →
      wpQuiet P ops C (fun a' => wpAnyM P md ops Q (fun j => fl.contains j) C n L a' w) (hd2.filterMap (ops[·]?)) a → wpAnyM P md ops Q (fun j => fl.contains j) C (hd2.length + n) listed a w := by
    intro hd2
    induction hd2 with
    | nil =>
      intro _ listed a _ hB h
      rw [List.length_nil, Nat.zero_add]
      have : listed = L := by simpa [ordHead] using hB
      rw [this]
      exact h
    | cons i r ih =>
      intro hsub listed a inv hB h
      simp only [ordHead, Bool.and_eq_true] at hB
      obtain ⟨⟨⟨hr, hf⟩, hh⟩, hB'⟩ := hB
      have hr' : i ∈ Region.ready md ops listed := by simpa using hr
      obtain ⟨_, o, ho, _⟩ := mem_ready.1 hr'
      simp only [kindAt, ho] at hh
      rw [List.filterMap_cons_some ho] at h
      have hst : qOp P ops C i (wpQuiet P ops C (fun a' => wpAnyM P md ops Q (fun j => fl.contains j) C n L a' w) (r.filterMap (ops[·]?))) a := by unfold qOp; simp only [ho]; exact h
      obtain ⟨v, hy, hk⟩ := yieldsIn_of_qOp ho hst
      rw [show (i :: r).length + n = (r.length + n) + 1 by simp only [List.length_cons]; omega]
      have hnext := ih (fun j hj => hsub j (List.mem_cons_of_mem _ hj)) _ _ (inv.set hr') hB' hk
      cases hp : pureOp o.op with
      | true => exact wpAnyM_first (C' := fun _ => True) ho (Region.noSelect_spec hsel) hQ (fun _ _ _ _ _ _ _ _ _ _ => trivial) _ listed a w inv (Region.free_spec ho hf) hr' (pure_all hp hC (yieldsIf_of hh hy)) trivial hnext
      | false =>
        refine wpAnyM_first (C' := C) ho (Region.noSelect_spec hsel) hQ (fun l1 i1 u1 j hj hne w w' hw hc => hc ?_ hw) _ listed a w inv (Region.free_spec ho hf) hr' (yieldsIf_of hh hy) hC hnext
        obtain ⟨_, oj, hoj, hall⟩ := mem_ready.1 hj
        have h7 := List.all_eq_true.1 hF j (List.mem_range.2 (Array.getElem?_eq_some_iff.1 hoj).1)
        simp only [Bool.or_eq_true] at h7
        rcases h7 with h7 | h7
        · exact h7
        · have h9 := List.all_eq_true.1 h7 i (hsub i List.mem_cons_self)
          have hpk : kindAt ops pureOp i = false := by simp only [kindAt, ho]; exact hp
          rw [hpk, Bool.false_or] at h9
          have h8 := waitsT_listed i1 _ j (fun o' ho' e he hb => by
            have : o' = oj := Option.some.inj (ho'.symm.trans hoj)
            subst this
            exact hall e he hb) h9
          rw [getD_both u1] at h8
          cases h8
  exact key hd (fun _ h => h) listed a (closed_of inv) hB h
/-- A region that draws its order: whatever may come is walked; S is what its reads rest on. -/
theorem wp_region_free {S : World → Prop} {id : Nat} {a : Act} {w : World} {l : List Oper} (fl : List Nat) (hm : P.follows .mixedOrders = true)
    (h : wpAnyM P .any l.toArray (Ends Q) (fun j => fl.contains j) (fun w' => ∃ x : In S, w' = x.w) l.toArray.size (Array.replicate l.toArray.size false) a w.drew) : (Code.region id l.toArray true).wp P Q a w := by
  refine wp_region_any hm (wpAny_le (ends_le Q) _ _ _ _ ?_)
  exact wpAny_of_mix (flag := fun j => fl.contains j) (C := fun w' => ∃ x : In S, w' = x.w) _ _ _ _ h
end
end Go.Proofs.YtpjkbamkaicoiaaDoor.U
end

section
/- Cuts of a walk, and results that lie in memory. -/
set_option linter.unusedVariables false
set_option linter.unusedSimpArgs false
namespace Go.Proofs.YtpjkbamkaicoiaaDoor.U
open Go.RowKit
theorem Own.nil {w w' : World} (h : Below w.heap.size w w') : Own w [] w' := ⟨fun _ h => absurd h List.not_mem_nil, h, fun _ h => absurd h List.not_mem_nil, List.nodup_nil⟩
theorem Own.laid {w0 w w' : World} {bs bs' : List Blk} (h : Own w0 bs w) (vs : List Value) (k i : Nat) {g : Nat} {T : TypeId} {cs cs' : Array Value} (hi : bs[i]? = some (g, T, cs)) (hc : fillC cs k vs = cs') (hb : bs.set i (g, T, cs') = bs') (hw : fillW w g k vs = w') : Own w0 bs' w' := by
  subst hc; subst hb; subst hw
  exact Own.fill vs k h i hi
theorem Own.cast {w0 w w' : World} {bs bs' : List Blk} (h : Own w0 bs w) (hb : bs = bs') (hw : w = w') : Own w0 bs' w' := by subst hb; subst hw; exact h
theorem Own.lay {w0 w : World} {bs : List Blk} (h : Own w0 bs w) (vs : List Value) (k i : Nat) {g : Nat} {T : TypeId} {cs : Array Value} (cs' : Array Value) (hi : bs[i]? = some (g, T, cs)) (hc : fillC cs k vs = cs') : Own w0 (bs.set i (g, T, cs')) (fillW w g k vs) := by
  subst hc
  exact Own.fill vs k h i hi
theorem fillW_size : ∀ (vs : List Value) (w : World) (g k : Nat), (fillW w g k vs).heap.size = w.heap.size
  | [], _, _, _ => rfl
  | v :: r, w, g, k => by
    unfold fillW
    rw [fillW_size r]
    simp
theorem world_own {P : Program} {id : Nat} {ops : Array Oper} {b : Bool} {Q : Exit → Act → World → Prop} {a : Act} {W w0 : World} {bs : List Blk} (h : Own w0 bs W) (k : ∀ WS : World, Own w0 bs WS → (Code.region id ops b).wp P Q a WS) : (Code.region id ops b).wp P Q a W := k W h
theorem calls_own {P : Program} {f : FuncId} {args : Array Value} {W w0 : World} {bs : List Blk} {Q : Ending → World → Prop} (h : Own w0 bs W) (k : ∀ WS : World, Own w0 bs WS → Calls P f args WS Q) : Calls P f args W Q := k W h
/-- A callee that leaves nothing of its own. -/
theorem Own.ret {P : Program} {f : FuncId} {args : Array Value} {v : Value} (h : ∀ w : World, Calls P f args w fun e w' => e = .returned v ∧ Below w.heap.size w w') : ∀ w : World, Calls P f args w fun e w' => e = .returned v ∧ Own w [] w' :=
  fun w => (h w).mono fun e w' h => ⟨h.1, Own.nil h.2⟩
section
variable {P : Program} {c : Code} {Q : Exit → Act → World → Prop} {a : Act} {w : World}
theorem wp_cut0 {A : Act} {F : World → Prop} (h : c.wp P (fun e a' w' => e = .normal ∧ a' = A ∧ F w') a w) (hk : ∀ w', F w' → Q .normal A w') : c.wp P Q a w := by
  refine Code.wp_mono (fun e a' w' h => ?_) h
  obtain ⟨rfl, rfl, hF⟩ := h
  exact hk w' hF
theorem wp_cut1 {A : Nat → Act} {F : Nat → World → Prop} (h : c.wp P (fun e a' w' => e = .normal ∧ ∃ i, a' = A i ∧ F i w') a w) (hk : ∀ i w', F i w' → Q .normal (A i) w') : c.wp P Q a w := by
  refine Code.wp_mono (fun e a' w' h => ?_) h
  obtain ⟨rfl, i, rfl, hF⟩ := h
  exact hk i w' hF
end
section
variable {P : Program} {fn : Func} {p q r : Tmp} {T1 T2 t1 t2 : TypeId} {tmps : Array Value} {w : World} {g1 g2 : Nat} {cs1 cs2 : Array Value} {d1 d2 : TypeDesc} {v : Value}
theorem res_c (h : fn.results = #[.cell p T1]) (h1 : At g1 t1 cs1 w) (u1 : P.underlying T1 = some d1) (i1 : (P.info? T1).map (·.size) = some cs1.size) (k1 : (match d1 with | .struct _ | .array _ _ => true | _ => false) = true)
    (hp : tmps.getD p undef = .pointer (some ⟨g1, 0, none⟩)) : (results fn tmps).run P w = .ok (.agg cs1) w := results_cell_row h _ _ g1 _ cs1 (0, 0) _ hp h1 u1 k1 i1
theorem res_cc (h : fn.results = #[.cell p T1, .cell q T2]) (h1 : At g1 t1 cs1 w) (u1 : P.underlying T1 = some d1) (i1 : (P.info? T1).map (·.size) = some cs1.size) (k1 : (match d1 with | .struct _ | .array _ _ => true | _ => false) = true)
    (h2 : At g2 t2 cs2 w) (u2 : P.underlying T2 = some d2) (i2 : (P.info? T2).map (·.size) = some cs2.size) (k2 : (match d2 with | .struct _ | .array _ _ => true | _ => false) = true)
    (hp : tmps.getD p undef = .pointer (some ⟨g1, 0, none⟩)) (hq : tmps.getD q undef = .pointer (some ⟨g2, 0, none⟩)) : (results fn tmps).run P w = .ok (.tuple #[.agg cs1, .agg cs2]) w := by
  have hp' : tmps[p]?.getD undef = .pointer (some ⟨g1, 0, none⟩) := by simpa using hp
  have hq' : tmps[q]?.getD undef = .pointer (some ⟨g2, 0, none⟩) := by simpa using hq
  have e1 := run_loadVar_row (P := P) w g1 t1 T1 cs1 (0, 0) _ h1 u1 k1 i1
  have e2 := run_loadVar_row (P := P) w g2 t2 T2 cs2 (0, 0) _ h2 u2 k2 i2
  simp [results, h, hp', hq', asAddr, e1, e2]
theorem res_cct (h : fn.results = #[.cell p T1, .cell q T2, .tmp r]) (h1 : At g1 t1 cs1 w) (u1 : P.underlying T1 = some d1) (i1 : (P.info? T1).map (·.size) = some cs1.size) (k1 : (match d1 with | .struct _ | .array _ _ => true | _ => false) = true)
    (h2 : At g2 t2 cs2 w) (u2 : P.underlying T2 = some d2) (i2 : (P.info? T2).map (·.size) = some cs2.size) (k2 : (match d2 with | .struct _ | .array _ _ => true | _ => false) = true)
    (hp : tmps.getD p undef = .pointer (some ⟨g1, 0, none⟩)) (hq : tmps.getD q undef = .pointer (some ⟨g2, 0, none⟩)) (hr : tmps.getD r undef = v) : (results fn tmps).run P w = .ok (.tuple #[.agg cs1, .agg cs2, v]) w := by
  have hp' : tmps[p]?.getD undef = .pointer (some ⟨g1, 0, none⟩) := by simpa using hp
  have hq' : tmps[q]?.getD undef = .pointer (some ⟨g2, 0, none⟩) := by simpa using hq
  have hr' : tmps[r]?.getD undef = v := by simpa using hr
  have e1 := run_loadVar_row (P := P) w g1 t1 T1 cs1 (0, 0) _ h1 u1 k1 i1
  have e2 := run_loadVar_row (P := P) w g2 t2 T2 cs2 (0, 0) _ h2 u2 k2 i2
  simp [results, h, hp', hq', hr', asAddr, e1, e2]
end
end Go.Proofs.YtpjkbamkaicoiaaDoor.U
end
