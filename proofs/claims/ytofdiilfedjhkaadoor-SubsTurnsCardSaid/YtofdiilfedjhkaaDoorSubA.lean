/- subs at this translation: shown, dropped, granted, unseen, seen, Row, Idle. -/
import Derived.Test.YtofdiilfedjhkaaDoorBox
import Derived.Test.YtofdiilfedjhkaaDoorSoft
import Derived.Test.YtofdiilfedjhkaaDoorOrdA
import Derived.Test.YtofdiilfedjhkaaDoorHanA
set_option linter.unusedVariables false
set_option linter.unusedSimpArgs false
namespace Go.Proofs.YtofdiilfedjhkaaDoor.Sub
open Go.RowKit U
abbrev CC (n : ByteArray) (tt pend await from_ ask onl : Bool) (st idle : Int) : Array Value := #[.string n, .bool tt, .bool pend, .bool await, .bool from_, .bool ask, .bool onl, .int .i64 st, .int .i64 idle]
abbrev CV (n : ByteArray) (tt pend await from_ ask onl : Bool) (st idle : Int) : Value := .agg (CC n tt pend await from_ ask onl st idle)
theorem infoStr : (Tryd.prog.info? 9).map (fun i => (i.zero, i.size, i.bytes)) = some (some (.string ⟨#[]⟩), 1, 16) := by kernel_rfl
theorem new_at (w : World) (T : TypeId) (cs : Array Value) (g : Nat) (h : g = w.heap.size) : At g T cs (w.alloc (.cells cs T)) := by subst h; exact At.new w T cs
theorem lit_cells (w : World) (cs : List Value) (T : TypeId) (g : Nat) (h : g = w.heap.size) : ∀ (j : Nat) (u : Value), cs[j]? = some u → (w.alloc (.cells cs.toArray T)).cell? ((⟨g, 0, none⟩ : Addr).add j) = some u := fun j u hj => by
  rw [adds]
  exact (new_at w T cs.toArray g h).cell j u (by simpa using hj)
set_option maxHeartbeats 1000000 in
theorem at_set9 {g : Nat} {T : TypeId} {w : World} (a0 a1 a2 a3 a4 a5 a6 a7 a8 v0 v1 v2 v3 v4 v5 v6 v7 v8 : Value) (h : At g T #[a0, a1, a2, a3, a4, a5, a6, a7, a8] w) : At g T #[v0, v1, v2, v3, v4, v5, v6, v7, v8] (((((((((w.setCell ⟨g, 0, none⟩ v0).setCell ⟨g, 1, none⟩ v1).setCell ⟨g, 2, none⟩ v2).setCell ⟨g, 3, none⟩ v3).setCell ⟨g, 4, none⟩ v4).setCell ⟨g, 5, none⟩ v5).setCell ⟨g, 6, none⟩ v6).setCell ⟨g, 7, none⟩ v7).setCell ⟨g, 8, none⟩ v8) := by
  replace h : At g T #[v0, a1, a2, a3, a4, a5, a6, a7, a8] (w.setCell ⟨g, 0, none⟩ v0) := by simpa using h.set 0 v0
  replace h : At g T #[v0, v1, a2, a3, a4, a5, a6, a7, a8] ((w.setCell ⟨g, 0, none⟩ v0).setCell ⟨g, 1, none⟩ v1) := by simpa using h.set 1 v1
  replace h : At g T #[v0, v1, v2, a3, a4, a5, a6, a7, a8] (((w.setCell ⟨g, 0, none⟩ v0).setCell ⟨g, 1, none⟩ v1).setCell ⟨g, 2, none⟩ v2) := by simpa using h.set 2 v2
  replace h : At g T #[v0, v1, v2, v3, a4, a5, a6, a7, a8] ((((w.setCell ⟨g, 0, none⟩ v0).setCell ⟨g, 1, none⟩ v1).setCell ⟨g, 2, none⟩ v2).setCell ⟨g, 3, none⟩ v3) := by simpa using h.set 3 v3
  replace h : At g T #[v0, v1, v2, v3, v4, a5, a6, a7, a8] (((((w.setCell ⟨g, 0, none⟩ v0).setCell ⟨g, 1, none⟩ v1).setCell ⟨g, 2, none⟩ v2).setCell ⟨g, 3, none⟩ v3).setCell ⟨g, 4, none⟩ v4) := by simpa using h.set 4 v4
  replace h : At g T #[v0, v1, v2, v3, v4, v5, a6, a7, a8] ((((((w.setCell ⟨g, 0, none⟩ v0).setCell ⟨g, 1, none⟩ v1).setCell ⟨g, 2, none⟩ v2).setCell ⟨g, 3, none⟩ v3).setCell ⟨g, 4, none⟩ v4).setCell ⟨g, 5, none⟩ v5) := by simpa using h.set 5 v5
  replace h : At g T #[v0, v1, v2, v3, v4, v5, v6, a7, a8] (((((((w.setCell ⟨g, 0, none⟩ v0).setCell ⟨g, 1, none⟩ v1).setCell ⟨g, 2, none⟩ v2).setCell ⟨g, 3, none⟩ v3).setCell ⟨g, 4, none⟩ v4).setCell ⟨g, 5, none⟩ v5).setCell ⟨g, 6, none⟩ v6) := by simpa using h.set 6 v6
  replace h : At g T #[v0, v1, v2, v3, v4, v5, v6, v7, a8] ((((((((w.setCell ⟨g, 0, none⟩ v0).setCell ⟨g, 1, none⟩ v1).setCell ⟨g, 2, none⟩ v2).setCell ⟨g, 3, none⟩ v3).setCell ⟨g, 4, none⟩ v4).setCell ⟨g, 5, none⟩ v5).setCell ⟨g, 6, none⟩ v6).setCell ⟨g, 7, none⟩ v7) := by simpa using h.set 7 v7
  replace h : At g T #[v0, v1, v2, v3, v4, v5, v6, v7, v8] (((((((((w.setCell ⟨g, 0, none⟩ v0).setCell ⟨g, 1, none⟩ v1).setCell ⟨g, 2, none⟩ v2).setCell ⟨g, 3, none⟩ v3).setCell ⟨g, 4, none⟩ v4).setCell ⟨g, 5, none⟩ v5).setCell ⟨g, 6, none⟩ v6).setCell ⟨g, 7, none⟩ v7).setCell ⟨g, 8, none⟩ v8) := by simpa using h.set 8 v8
  exact h
theorem at_other9 {g g' : Nat} {T : TypeId} {cs : Array Value} {w : World} (v0 v1 v2 v3 v4 v5 v6 v7 v8 : Value) (h : At g' T cs w) (hn : ¬ g' = g) : At g' T cs (((((((((w.setCell ⟨g, 0, none⟩ v0).setCell ⟨g, 1, none⟩ v1).setCell ⟨g, 2, none⟩ v2).setCell ⟨g, 3, none⟩ v3).setCell ⟨g, 4, none⟩ v4).setCell ⟨g, 5, none⟩ v5).setCell ⟨g, 6, none⟩ v6).setCell ⟨g, 7, none⟩ v7).setCell ⟨g, 8, none⟩ v8) := by
  replace h := h.other ⟨g, 0, none⟩ v0 hn
  replace h := h.other ⟨g, 1, none⟩ v1 hn
  replace h := h.other ⟨g, 2, none⟩ v2 hn
  replace h := h.other ⟨g, 3, none⟩ v3 hn
  replace h := h.other ⟨g, 4, none⟩ v4 hn
  replace h := h.other ⟨g, 5, none⟩ v5 hn
  replace h := h.other ⟨g, 6, none⟩ v6 hn
  replace h := h.other ⟨g, 7, none⟩ v7 hn
  replace h := h.other ⟨g, 8, none⟩ v8 hn
  exact h
theorem soft_set9 {B g n : Nat} {p : Value} {xs : List Value} {w : World} (v0 v1 v2 v3 v4 v5 v6 v7 v8 : Value) (h : Soft w B p n xs) (hn : ∀ b, p.ownBlock = some b → some g ≠ some b) : Soft (((((((((w.setCell ⟨g, 0, none⟩ v0).setCell ⟨g, 1, none⟩ v1).setCell ⟨g, 2, none⟩ v2).setCell ⟨g, 3, none⟩ v3).setCell ⟨g, 4, none⟩ v4).setCell ⟨g, 5, none⟩ v5).setCell ⟨g, 6, none⟩ v6).setCell ⟨g, 7, none⟩ v7).setCell ⟨g, 8, none⟩ v8) B p n xs := by
  replace h := h.kept (grown_set _ g 0 v0) hn
  replace h := h.kept (grown_set _ g 1 v1) hn
  replace h := h.kept (grown_set _ g 2 v2) hn
  replace h := h.kept (grown_set _ g 3 v3) hn
  replace h := h.kept (grown_set _ g 4 v4) hn
  replace h := h.kept (grown_set _ g 5 v5) hn
  replace h := h.kept (grown_set _ g 6 v6) hn
  replace h := h.kept (grown_set _ g 7 v7) hn
  replace h := h.kept (grown_set _ g 8 v8) hn
  exact h
theorem low_set9 {w0 w : World} {g : Nat} (v0 v1 v2 v3 v4 v5 v6 v7 v8 : Value) (h : Below w0.heap.size w0 w) (hg : w0.heap.size ≤ g) : Below w0.heap.size w0 (((((((((w.setCell ⟨g, 0, none⟩ v0).setCell ⟨g, 1, none⟩ v1).setCell ⟨g, 2, none⟩ v2).setCell ⟨g, 3, none⟩ v3).setCell ⟨g, 4, none⟩ v4).setCell ⟨g, 5, none⟩ v5).setCell ⟨g, 6, none⟩ v6).setCell ⟨g, 7, none⟩ v7).setCell ⟨g, 8, none⟩ v8) := by
  replace h := h.setCell (p := ⟨g, 0, none⟩) hg v0
  replace h := h.setCell (p := ⟨g, 1, none⟩) hg v1
  replace h := h.setCell (p := ⟨g, 2, none⟩) hg v2
  replace h := h.setCell (p := ⟨g, 3, none⟩) hg v3
  replace h := h.setCell (p := ⟨g, 4, none⟩) hg v4
  replace h := h.setCell (p := ⟨g, 5, none⟩) hg v5
  replace h := h.setCell (p := ⟨g, 6, none⟩) hg v6
  replace h := h.setCell (p := ⟨g, 7, none⟩) hg v7
  replace h := h.setCell (p := ⟨g, 8, none⟩) hg v8
  exact h
theorem at_set3 {g : Nat} {T : TypeId} {w : World} (a0 a1 a2 v0 v1 v2 : Value) (h : At g T #[a0, a1, a2] w) : At g T #[v0, v1, v2] (((w.setCell ⟨g, 0, none⟩ v0).setCell ⟨g, 1, none⟩ v1).setCell ⟨g, 2, none⟩ v2) := by
  replace h : At g T #[v0, a1, a2] (w.setCell ⟨g, 0, none⟩ v0) := by simpa using h.set 0 v0
  replace h : At g T #[v0, v1, a2] ((w.setCell ⟨g, 0, none⟩ v0).setCell ⟨g, 1, none⟩ v1) := by simpa using h.set 1 v1
  replace h : At g T #[v0, v1, v2] (((w.setCell ⟨g, 0, none⟩ v0).setCell ⟨g, 1, none⟩ v1).setCell ⟨g, 2, none⟩ v2) := by simpa using h.set 2 v2
  exact h
theorem at_other3 {g g' : Nat} {T : TypeId} {cs : Array Value} {w : World} (v0 v1 v2 : Value) (h : At g' T cs w) (hn : ¬ g' = g) : At g' T cs (((w.setCell ⟨g, 0, none⟩ v0).setCell ⟨g, 1, none⟩ v1).setCell ⟨g, 2, none⟩ v2) := by
  replace h := h.other ⟨g, 0, none⟩ v0 hn
  replace h := h.other ⟨g, 1, none⟩ v1 hn
  replace h := h.other ⟨g, 2, none⟩ v2 hn
  exact h
theorem soft_set3 {B g n : Nat} {p : Value} {xs : List Value} {w : World} (v0 v1 v2 : Value) (h : Soft w B p n xs) (hn : ∀ b, p.ownBlock = some b → some g ≠ some b) : Soft (((w.setCell ⟨g, 0, none⟩ v0).setCell ⟨g, 1, none⟩ v1).setCell ⟨g, 2, none⟩ v2) B p n xs := by
  replace h := h.kept (grown_set _ g 0 v0) hn
  replace h := h.kept (grown_set _ g 1 v1) hn
  replace h := h.kept (grown_set _ g 2 v2) hn
  exact h
theorem low_set3 {w0 w : World} {g : Nat} (v0 v1 v2 : Value) (h : Below w0.heap.size w0 w) (hg : w0.heap.size ≤ g) : Below w0.heap.size w0 (((w.setCell ⟨g, 0, none⟩ v0).setCell ⟨g, 1, none⟩ v1).setCell ⟨g, 2, none⟩ v2) := by
  replace h := h.setCell (p := ⟨g, 0, none⟩) hg v0
  replace h := h.setCell (p := ⟨g, 1, none⟩) hg v1
  replace h := h.setCell (p := ⟨g, 2, none⟩) hg v2
  exact h
/-- What is shown behind l. -/
def more (b : Bool) : List Value := if b then [.string ⟨#[]⟩] else []
def ShownPost (B : Nat) (v : Value) (n : Nat) (xs : List Value) (b : Bool) (w : World) (e : Ending) (w' : World) : Prop := ∃ v', e = .returned v' ∧ Soft w' B v' (n + (more b).length) (xs ++ more b) ∧ w.grownBy w' v.ownBlock
theorem grown_box (w : World) (o : Obj) (r : Option Nat) : w.grownBy (w.alloc o) r := World.grownBy_alloc w o r
set_option maxHeartbeats 1000000 in
theorem shown_no (n : ByteArray) (tt pend await from_ ask onl : Bool) (st idle : Int) (v : Value) (B m : Nat) (xs : List Value) (h : tt = false ∨ onl = false) (w : World) (hv : Soft w B v m xs) :
    Calls Tryd.prog 18 #[CV n tt pend await from_ ask onl st idle, v] w (ShownPost B v m xs (tt && onl) w) := by
  have hb : (tt && onl) = false := by rcases h with rfl | rfl <;> simp
  rw [hb]
  have HP : Hid (Soft (w.alloc (.cells (CC n tt pend await from_ ask onl st idle) 23)) B v (m + (more false).length) (xs ++ more false) ∧ w.grownBy (w.alloc (.cells (CC n tt pend await from_ ask onl st idle) 23)) v.ownBlock) := Lib.hid
    ⟨by simpa [more] using hv.below ((Below.refl w.heap.size w).alloc (Nat.le_refl _) _), grown_box _ _ _⟩
  clear hv hb
  rcases h with rfl | rfl
  · go_enter Tryd.func18, Tryd.ntmps18
    go_wp2
    go_ret
    exact ⟨v, rfl, HP.out⟩
  · cases tt with
    | false =>
      go_enter Tryd.func18, Tryd.ntmps18
      go_wp2
      go_ret
      exact ⟨v, rfl, HP.out⟩
    | true =>
      go_enter Tryd.func18, Tryd.ntmps18
      go_wp2
      go_ret
      exact ⟨v, rfl, HP.out⟩
set_option maxHeartbeats 1000000 in
theorem shown_yes (n : ByteArray) (pend await from_ ask : Bool) (st idle : Int) (v : Value) (B m : Nat) (xs : List Value) (w : World) (hv : Soft w B v m xs) (hB : B ≤ w.heap.size) (hm : m ≤ 1000) :
    Calls Tryd.prog 18 #[CV n true pend await from_ ask true st idle, v] w (ShownPost B v m xs (true && true) w) := by
  obtain ⟨i0, hi, hz0, hz1, hz2⟩ := info_parts infoStr
  have h2 := (hv.below ((Below.refl w.heap.size w).alloc (Nat.le_refl _) (.cells #[.string n, .bool true, .bool pend, .bool await, .bool from_, .bool ask, .bool true, .int .i64 st, .int .i64 idle] 23)))
  have h3 := h2.below ((Below.refl (w.alloc (.cells #[.string n, .bool true, .bool pend, .bool await, .bool from_, .bool ask, .bool true, .int .i64 st, .int .i64 idle] 23)).heap.size (w.alloc (.cells #[.string n, .bool true, .bool pend, .bool await, .bool from_, .bool ask, .bool true, .int .i64 st, .int .i64 idle] 23))).alloc (Nat.le_refl _) (.cells #[.string ⟨#[]⟩] 9))
  have HC := Lib.hid (lit_cells (w.alloc (.cells #[.string n, .bool true, .bool pend, .bool await, .bool from_, .bool ask, .bool true, .int .i64 st, .int .i64 idle] 23)) [.string ⟨#[]⟩] 9 (w.heap.size + 1) (by simp))
  have HG : Hid (w.grownBy ((w.alloc (.cells #[.string n, .bool true, .bool pend, .bool await, .bool from_, .bool ask, .bool true, .int .i64 st, .int .i64 idle] 23)).alloc (.cells #[.string ⟨#[]⟩] 9)) v.ownBlock) := Lib.hid (grown_trans (grown_box _ _ _) (grown_box _ _ _))
  have H3 := Lib.hid h3
  clear hv h2 h3
  go_enter Tryd.func18, Tryd.ntmps18
  go_wp2_with (at_builtin; go_loud (refine wpList_append_soft _ rfl _ _ 25 rfl B 9 i0 (.string ⟨#[]⟩) 16 Tryd.underlying25 hi hz0 hz1 hz2 rfl _ _ _ rfl H3.out ⟨w.heap.size + 1, 0, none⟩ 1 1 [.string ⟨#[]⟩] rfl rfl ?c1 ?c2 ?c3 ?c4 ?c5 ?_))
  case c1 => exact HC.out
  case c2 =>
    intro z hz
    rw [List.mem_singleton] at hz
    rw [hz]; rfl
  case c3 => simp only [maxLen]; omega
  case c4 => omega
  case c5 => simp; omega
  intro v' w6 hown' hgrow
  have HP : Hid (Soft w6 B v' (m + (more (true && true)).length) (xs ++ more (true && true)) ∧ w.grownBy w6 v.ownBlock) := Lib.hid ⟨hown', grown_trans HG.out hgrow⟩
  clear hown' hgrow
  go_wp2
  go_ret
  exact ⟨v', rfl, HP.out⟩
theorem dropped_any (n : ByteArray) (tt pend await from_ ask onl : Bool) (st idle : Int) (w : World) :
    Calls Tryd.prog 20 #[CV n tt pend await from_ ask onl st idle] w fun e w' => ∃ g, e = .returned (.slice (some ⟨g, 0, none⟩) 1 1) ∧ At g 42 #[.int .i64 2, .string n, .string ⟨#[]⟩, .string ⟨#[]⟩, .bool false] w' ∧ Below w.heap.size w w' := by
  have K := ((Box.start w).alloc 23 #[.string n, .bool tt, .bool pend, .bool await, .bool from_, .bool ask, .bool onl, .int .i64 st, .int .i64 idle]).alloc 42 #[.int .i64 2, .string n, .string ⟨#[]⟩, .string ⟨#[]⟩, .bool false]
  have HK := Lib.hid K; clear K
  go_enter Tryd.func20, Tryd.ntmps20
  go_wp2
  go_ret
  exact ⟨_, rfl, by simpa using HK.out.at 0 _ _ _ rfl, HK.out.low⟩
theorem unseen_any (n : ByteArray) (tt pend await from_ ask onl : Bool) (st idle : Int) (w : World) :
    Calls Tryd.prog 22 #[CV n tt pend await from_ ask onl st idle] w fun e w' => e = .returned (CV n false false false from_ ask onl st idle) ∧ Below w.heap.size w w' := by
  go_enter Tryd.func22, Tryd.ntmps22
  go_wp2
  exact bodyPost_ret (results_cell_row rfl _ _ (w.heap.size + 1) _ (CC n false false false from_ ask onl st idle) (0, 0) _ rfl (new_at _ _ _ _ (by simp)) Tryd.underlying23 rfl (by kernel_rfl)) rfl ⟨rfl, ((Below.refl _ w).alloc (Nat.le_refl _) _).alloc (by simp) _⟩
theorem szC : (Tryd.prog.info? 23).map (·.size) = some 9 := by kernel_rfl
theorem szT : (Tryd.prog.info? 29).map (·.size) = some 3 := by kernel_rfl
theorem res_ct {fn : Func} {p q : Tmp} (h : fn.results = #[.cell p 23, .cell q 29]) (tmps : Array Value) (w : World) (g1 g2 : Nat) (cs1 cs2 : Array Value)
    (hp : tmps.getD p undef = .pointer (some ⟨g1, 0, none⟩)) (hq : tmps.getD q undef = .pointer (some ⟨g2, 0, none⟩)) (h1 : At g1 23 cs1 w) (h2 : At g2 29 cs2 w) (s1 : cs1.size = 9) (s2 : cs2.size = 3) :
    (results fn tmps).run Tryd.prog w = .ok (.tuple #[.agg cs1, .agg cs2]) w := by
  have hp' : tmps[p]?.getD undef = .pointer (some ⟨g1, 0, none⟩) := by simpa using hp
  have hq' : tmps[q]?.getD undef = .pointer (some ⟨g2, 0, none⟩) := by simpa using hq
  have e1 := run_loadVar_row (P := Tryd.prog) w g1 23 23 cs1 (0, 0) _ h1 Tryd.underlying23 rfl (by rw [s1]; exact szC)
  have e2 := run_loadVar_row (P := Tryd.prog) w g2 29 29 cs2 (0, 0) _ h2 Tryd.underlying29 rfl (by rw [s2]; exact szT)
  simp [results, h, hp', hq', asAddr, e1, e2]
end Go.Proofs.YtofdiilfedjhkaaDoor.Sub
