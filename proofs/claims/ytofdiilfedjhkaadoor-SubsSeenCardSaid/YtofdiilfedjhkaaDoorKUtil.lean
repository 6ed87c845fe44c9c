/- Contracts of functions of this translation, and what they come to; what is not used is left out. -/
import Derived.Test.YtofdiilfedjhkaaDoorProg
import Derived.WalkKit
import Derived.Below
import Derived.Lib.Strings
import Derived.Lib.Hide
import Derived.Lib.ConvBytes
import Derived.Laws.IdiomStrings
import Derived.Lib.OthersKept
import Derived.WalkSpells
import Derived.WalkLawsBesides
import Derived.Deep.QuietTactic

section
/- Small lemmas for walks: bytes, cuts of strings, worlds that have only been drawn from; an array's element. -/
set_option linter.unusedVariables false
set_option linter.unusedSimpArgs false
namespace Go.Proofs.YtofdiilfedjhkaaDoor.U
open Go.RowKit

theorem u8_at (s : ByteArray) (k : Nat) (h : k < s.size) : s.data.toList.drop k = s[k] :: s.data.toList.drop (k + 1) := by
  rw [List.drop_eq_getElem_cons (by simpa using h)]; rfl
theorem len_data (s : ByteArray) : s.data.toList.length = s.size := by rw [Array.length_toList]; rfl
theorem mk_data (s : ByteArray) (l : List UInt8) (h : s.data.toList = l) : s = ⟨l.toArray⟩ := by subst h; rfl
theorem below_drewN {B : Nat} {w W : World} (h : Below B w W) (n : Nat) : Below B w (W.drewN n) := ⟨h.os, h.tape, h.output, h.size, h.block⟩
theorem below_then {w w1 w2 : World} (h : Below w.heap.size w w1) (k : Below w1.heap.size w1 w2) : Below w.heap.size w w2 := h.trans (k.mono h.size)
/-- Block g holds these bytes at its head, and they may be written. -/
def BytesAt (g : Nat) (l : List UInt8) (w : World) : Prop := ∀ j (h : j < l.length), w.cell? ⟨g, j, none⟩ = some (.int .u8 (l[j].toNat : Int)) ∧ w.frozen? ⟨g, j, none⟩ = false
theorem BytesAt.lt {g : Nat} {l : List UInt8} {w : World} (h : BytesAt g l w) (hl : 0 < l.length) : g < w.heap.size := World.block_lt_of_cell? w ⟨g, 0, none⟩ (h 0 hl).1
theorem BytesAt.new (w : World) (s : ByteArray) : BytesAt w.heap.size s.data.toList (Lib.bytesWorld w 5 s) := by
  intro j h
  have h' : j < s.size := by rw [len_data] at h; exact h
  constructor
  · rw [Lib.bytesWorld_cell w _ s j h', List.getD_eq_getElem?_getD, List.getElem?_eq_getElem h]; rfl
  · simp [World.frozen?, Lib.bytesWorld_at_new]
    intro h1
    rw [Lib.bytesCells] at h1
    simp at h1
    have : s.data.size = s.size := rfl
    omega
theorem BytesAt.set {g : Nat} {l : List UInt8} {w : World} (h : BytesAt g l w) (k : Nat) (b : UInt8) (v : Value) (hv : v = .int .u8 (b.toNat : Int)) : BytesAt g (l.set k b) (w.setCell ⟨g, k, none⟩ v) := by
  intro j hj
  rw [List.length_set] at hj
  obtain ⟨h1, h2⟩ := h j hj
  refine ⟨?_, by rw [World.frozen?_setCell]; exact h2⟩
  by_cases e : k = j
  · subst e
    rw [World.cell?_setCell_same w _ _ h1, hv, List.getElem_set_self]
  · rw [World.cell?_setCell_other w _ _ _ (by intro hh; injection hh with _ h3; exact e h3), List.getElem_set_ne e]; exact h1
theorem BytesAt.below {g : Nat} {l : List UInt8} {w w' : World} (h : BytesAt g l w) (hb : Below w.heap.size w w') : BytesAt g l w' := by
  intro j hj
  obtain ⟨h1, h2⟩ := h j hj
  have hlt := World.block_lt_of_cell? w ⟨g, j, none⟩ h1
  exact ⟨(hb.cell (p := ⟨g, j, none⟩) hlt).trans h1, (hb.frozen (p := ⟨g, j, none⟩) hlt).trans h2⟩
theorem BytesAt.text {P : Program} {g : Nat} {l : List UInt8} {w : World} (h : BytesAt g l w) (src dst e : TypeId) (cap : Nat) (hs : P.underlying src = some (.slice e)) (he : P.underlying e = some (.int .u8)) (hd : P.underlying dst = some .string) :
    (convert src dst (.slice (some ⟨g, 0, none⟩) l.length cap)).run P w = .ok (.string ⟨l.toArray⟩) w := by
  refine run_convert_bytes_back w src dst e ⟨g, 0, none⟩ cap l hs he hd fun j hj => ?_
  have ha : (⟨g, 0, none⟩ : Addr).add j = ⟨g, j, none⟩ := by unfold Addr.add; split <;> simp_all
  rw [ha]; exact (h j hj).1
theorem below_bytesWorld (w : World) (e : TypeId) (s : ByteArray) : Below w.heap.size w (Lib.bytesWorld w e s) := by
  refine ⟨?_, ?_, ?_, by rw [Lib.bytesWorld_size]; omega, fun k hk => Lib.bytesWorld_at_old w e s k hk⟩
  all_goals
    unfold Lib.bytesWorld World.freeze
    split <;> rfl
/-- Block g holds these cells, of type T, none of them frozen. -/
def At (g : Nat) (T : TypeId) (cs : Array Value) (w : World) : Prop := w.heap[g]? = some (.cells cs T (0, 0))
theorem At.new (w : World) (T : TypeId) (cs : Array Value) : At w.heap.size T cs (w.alloc (.cells cs T)) := heap_alloc_new w _
theorem At.lt {g : Nat} {T : TypeId} {cs : Array Value} {w : World} (h : At g T cs w) : g < w.heap.size := by
  rcases Nat.lt_or_ge g w.heap.size with h' | h'
  · exact h'
  · unfold At at h; simp [Array.getElem?_eq_none h'] at h
theorem At.cell {g : Nat} {T : TypeId} {cs : Array Value} {w : World} (h : At g T cs w) (i : Nat) (v : Value) (hv : cs[i]? = some v) : w.cell? ⟨g, i, none⟩ = some v := by
  unfold At at h; simp [World.cell?, h, hv]
theorem At.free {g : Nat} {T : TypeId} {cs : Array Value} {w : World} (h : At g T cs w) (i : Nat) : w.frozen? ⟨g, i, none⟩ = false := by
  unfold At at h; simp [World.frozen?, h]
theorem At.below {g : Nat} {T : TypeId} {cs : Array Value} {w w' : World} (h : At g T cs w) (hb : Below w.heap.size w w') : At g T cs w' := (hb.block g h.lt).trans h
theorem At.alloc {g : Nat} {T : TypeId} {cs : Array Value} {w : World} (h : At g T cs w) (o : Obj) : At g T cs (w.alloc o) := (Below.heap_alloc w o g h.lt).trans h
theorem At.set {g : Nat} {T : TypeId} {cs : Array Value} {w : World} (h : At g T cs w) (i : Nat) (v : Value) : At g T (cs.setIfInBounds i v) (w.setCell ⟨g, i, none⟩ v) := by
  unfold At at *
  simp [World.setCell, Array.getElem?_modify, h]
theorem At.other {g : Nat} {T : TypeId} {cs : Array Value} {w : World} (h : At g T cs w) (a : Addr) (v : Value) (hne : g ≠ a.block) : At g T cs (w.setCell a v) := by
  unfold At at *
  rw [Below.heap_setCell w a v g hne]; exact h
theorem At.drewN {g : Nat} {T : TypeId} {cs : Array Value} {w : World} (h : At g T cs w) (n : Nat) : At g T cs (w.drewN n) := h
end Go.Proofs.YtofdiilfedjhkaaDoor.U
end
