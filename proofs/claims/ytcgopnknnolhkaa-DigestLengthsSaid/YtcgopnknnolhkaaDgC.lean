/- digest: bytes of a word, appended; the padding. -/
import Derived.Test.YtcgopnknnolhkaaDgW
import Derived.Test.YtcgopnknnolhkaaSoft
import Derived.OwnWalk
import Derived.Laws.OwnMore
import Derived.Laws.MakeOwn
import Derived.Deep.AppendLies
set_option linter.unusedVariables false
set_option linter.unusedSimpArgs false
namespace Go.Proofs.Ytcgopnknnolhkaa.Dg
open Go.RowKit U
def bv (l : List UInt8) : List Value := l.map fun x => .int .u8 (x.toNat : Int)
theorem bv_len (l : List UInt8) : (bv l).length = l.length := by unfold bv; rw [List.length_map]
theorem bv_append (a b : List UInt8) : bv (a ++ b) = bv a ++ bv b := by unfold bv; rw [List.map_append]
theorem bv_at (l : List UInt8) (k : Nat) (h : k < l.length) : (bv l)[k]? = some (.int .u8 ((l[k]).toNat : Int)) := by unfold bv; rw [List.getElem?_map, List.getElem?_eq_getElem h]; rfl
/-- A row of the call's own reads as these bytes. -/
def BR (w : World) (B : Nat) (v : Value) (l : List UInt8) : Prop := Soft w B v l.length (bv l)
theorem infoU8 : (Try.prog.info? 5).map (fun i => (i.zero, i.size, i.bytes)) = some (some (.int .u8 0), 1, 1) := by kernel_rfl
theorem addz (g j : Nat) : (⟨g, 0, none⟩ : Addr).add j = ⟨g, j, none⟩ := by unfold Addr.add; split <;> simp_all
theorem own_below {B : Nat} {e : TypeId} {k : Nat} {v : Value} {n : Nat} {xs : List Value} {w w' : World} (h : w.ownsRow B e k v n xs) (hb : Below w.heap.size w w') : w'.ownsRow B e k v n xs :=
  h.kept (row := none) ⟨hb.os, hb.tape, hb.output, hb.size, fun j hj _ => hb.block j hj⟩ (by cases hv : v.ownBlock <;> simp)
theorem b24 (x : UInt32) : u x / (16777216 : Int) = (((x >>> 24).toUInt8).toNat : Int) := by
  have h := shrE x 24 (by decide)
  rw [show (UInt32.ofNat 24) = 24 from rfl] at h
  have e : u x / (2 : Int) ^ 24 = u x / (16777216 : Int) := by rw [show (2 : Int) ^ 24 = 16777216 by decide]
  rw [e] at h
  rw [h]
  have hx := x.toNat_lt
  unfold u
  rw [UInt32.toNat_toUInt8, UInt32.toNat_shiftRight, show (24 : UInt32).toNat % 32 = 24 from rfl, Nat.shiftRight_eq_div_pow]
  omega
theorem bAt (x : UInt32) (k : Nat) (hk : k < 32) : u x / (2 : Int) ^ k % (256 : Int) = (((x >>> UInt32.ofNat k).toUInt8).toNat : Int) := by
  rw [shrE x k hk]
  unfold u
  rw [UInt32.toNat_toUInt8]; rfl
theorem b16 (x : UInt32) : u x / (65536 : Int) % (256 : Int) = (((x >>> 16).toUInt8).toNat : Int) := by
  have := bAt x 16 (by decide)
  rwa [show (2 : Int) ^ 16 = 65536 by decide] at this
theorem b8 (x : UInt32) : u x / (256 : Int) % (256 : Int) = (((x >>> 8).toUInt8).toNat : Int) := by
  have := bAt x 8 (by decide)
  rwa [show (2 : Int) ^ 8 = 256 by decide] at this
theorem b0 (x : UInt32) : u x % (256 : Int) = ((x.toUInt8).toNat : Int) := by
  unfold u
  rw [UInt32.toNat_toUInt8]; rfl
def AppPost (B : Nat) (v : Value) (l : List UInt8) (w : World) (e : Ending) (w' : World) : Prop := ∃ g cp, e = .returned (.slice (some ⟨g, 0, none⟩) l.length cp) ∧ BR w' B (.slice (some ⟨g, 0, none⟩) l.length cp) l ∧ w.grownBy w' v.ownBlock
theorem lit_cells (w : World) (cs : List Value) (T : TypeId) : ∀ (j : Nat) (u : Value), cs[j]? = some u → (w.alloc (.cells cs.toArray T)).cell? ((⟨w.heap.size, 0, none⟩ : Addr).add j) = some u := fun j u hj => by
  rw [addz]
  exact (At.new w T cs.toArray).cell j u (by simpa using hj)
set_option maxHeartbeats 1000000 in
theorem app_any (least : Bool) {B : Nat} {v : Value} {l : List UInt8} {w : World} (h : BR w B v l) (hB : B ≤ w.heap.size) (hl : l.length ≤ 100000) (x : UInt32) :
    Calls Try.prog 18 #[v, .int .u32 (u x), .bool least] w (AppPost B v (l ++ (if least then (be4 x).reverse else be4 x)) w) := by
  obtain ⟨y, hy⟩ : ∃ y, y = if least then rev x else x := ⟨_, rfl⟩
  have hbe : (if least then (be4 x).reverse else be4 x) = be4 y := by
    rw [hy]; cases least with
    | true => exact (be4_rev x).symm
    | false => rfl
  rw [hbe]
  have HY := Lib.hid hy
  clear hbe hy
  obtain ⟨x0, x1⟩ := u_range x
  obtain ⟨y0, y1⟩ := u_range y
  obtain ⟨i0, hi, hz0, hz1, hz2⟩ := info_parts infoU8
  have HL : Hid ((l ++ be4 y).length = l.length + 4) := Lib.hid (by rw [List.length_append]; rfl)
  have HBV : Hid (bv (l ++ be4 y) = bv l ++ [.int .u8 (u y / 16777216), .int .u8 (u y / 65536 % 256), .int .u8 (u y / 256 % 256), .int .u8 (u y % 256)]) := Lib.hid (by rw [bv_append, b24, b16, b8, b0]; rfl)
  have hown : Soft w B v l.length (bv l) := h
  clear h
  obtain ⟨n, hn⟩ : ∃ n, n = l.length := ⟨_, rfl⟩
  rw [← hn] at hown hl HL
  obtain ⟨L, hL⟩ : ∃ L, L = bv l := ⟨_, rfl⟩
  rw [← hL] at hown HBV
  clear hn hL
  have h2 := hown.below ((Below.refl w.heap.size w).alloc (Nat.le_refl _) (.cells #[.int .u8 (u y / 16777216), .int .u8 (u y / 65536 % 256), .int .u8 (u y / 256 % 256), .int .u8 (u y % 256)] 5))
  have HC := Lib.hid (lit_cells w [.int .u8 (u y / 16777216), .int .u8 (u y / 65536 % 256), .int .u8 (u y / 256 % 256), .int .u8 (u y % 256)] 5)
  have HG := Lib.hid ((World.grownBy_alloc w (.cells #[.int .u8 (u y / 16777216), .int .u8 (u y / 65536 % 256), .int .u8 (u y / 256 % 256), .int .u8 (u y % 256)] 5) v.ownBlock))
  cases least with
  | true =>
    have e : y = rev x := HY.out
    subst e
    go_enter Try.func18, Try.ntmps18
    go_wp2_with fail
    refine (rev_any _ _).mono ?_
    rintro e w1 ⟨rfl, rfl⟩
    go_wp2_with (at_builtin; refine wpList_append_soft _ rfl _ _ 33 rfl B 5 i0 (.int .u8 0) 1 Try.underlying33 hi hz0 hz1 hz2 rfl _ _ _ rfl h2 ⟨w.heap.size, 0, none⟩ 4 4 [.int .u8 (u (rev x) / 16777216), .int .u8 (u (rev x) / 65536 % 256), .int .u8 (u (rev x) / 256 % 256), .int .u8 (u (rev x) % 256)] rfl rfl ?c1 ?c2 ?c3 ?c4 ?c5 ?_)
    case c1 => exact HC.out
    case c2 =>
      intro z hz
      simp only [List.mem_cons, List.not_mem_nil, or_false] at hz
      rcases hz with rfl | rfl | rfl | rfl <;> rfl
    case c3 => simp only [maxLen]; omega
    case c4 => omega
    case c5 => simp; omega
    intro v' w5 hown' hgrow
    obtain ⟨g5, cp5, rfl, hg50⟩ := hown'.form (by omega)
    have HO := Lib.hid hown'
    have HG2 := Lib.hid hgrow
    clear hown' hg50 hgrow
    go_wp2
    go_ret
    unfold AppPost
    rw [HL.out]
    refine ⟨g5, cp5, rfl, ?_, grown_trans HG.out HG2.out⟩
    unfold BR
    rw [HL.out, HBV.out]; exact HO.out
  | false =>
    have e : y = x := HY.out
    subst e
    go_enter Try.func18, Try.ntmps18
    go_wp2_with (at_builtin; refine wpList_append_soft _ rfl _ _ 33 rfl B 5 i0 (.int .u8 0) 1 Try.underlying33 hi hz0 hz1 hz2 rfl _ _ _ rfl h2 ⟨w.heap.size, 0, none⟩ 4 4 [.int .u8 (u y / 16777216), .int .u8 (u y / 65536 % 256), .int .u8 (u y / 256 % 256), .int .u8 (u y % 256)] rfl rfl ?c1 ?c2 ?c3 ?c4 ?c5 ?_)
    case c1 => exact HC.out
    case c2 =>
      intro z hz
      simp only [List.mem_cons, List.not_mem_nil, or_false] at hz
      rcases hz with rfl | rfl | rfl | rfl <;> rfl
    case c3 => simp only [maxLen]; omega
    case c4 => omega
    case c5 => simp; omega
    intro v' w5 hown' hgrow
    obtain ⟨g5, cp5, rfl, hg50⟩ := hown'.form (by omega)
    have HO := Lib.hid hown'
    have HG2 := Lib.hid hgrow
    clear hown' hg50 hgrow
    go_wp2
    go_ret
    unfold AppPost
    rw [HL.out]
    refine ⟨g5, cp5, rfl, ?_, grown_trans HG.out HG2.out⟩
    unfold BR
    rw [HL.out, HBV.out]; exact HO.out
end Go.Proofs.Ytcgopnknnolhkaa.Dg
