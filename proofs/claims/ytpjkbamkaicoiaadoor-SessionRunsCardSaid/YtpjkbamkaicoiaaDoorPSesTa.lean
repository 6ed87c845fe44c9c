/- Contracts of functions of this translation, and what they come to; what is not used is left out. -/
import Derived.Test.YtpjkbamkaicoiaaDoorPSesT0
import Derived.Test.YtpjkbamkaicoiaaDoorPg7p1
import Derived.Test.YtpjkbamkaicoiaaDoorPg7p0
import Derived.Test.YtpjkbamkaicoiaaDoorPSesE1
import Derived.Test.YtpjkbamkaicoiaaDoorPSesE0
import Derived.Test.YtpjkbamkaicoiaaDoorPg1
import Derived.Test.YtpjkbamkaicoiaaDoorPg5
import Derived.Test.YtpjkbamkaicoiaaDoorPCls
import Derived.Test.YtpjkbamkaicoiaaDoorPUtil
import Derived.Test.YtpjkbamkaicoiaaDoorPSoft
import Derived.Test.YtpjkbamkaicoiaaDoorPHanS
import Derived.Test.YtpjkbamkaicoiaaDoorPHanR
import Derived.Test.YtpjkbamkaicoiaaDoorPHanQ
import Derived.Test.YtpjkbamkaicoiaaDoorPRaQ
import Derived.Test.YtpjkbamkaicoiaaDoorPRefJ
import Derived.Test.YtpjkbamkaicoiaaDoorPRefF
import Derived.Test.YtpjkbamkaicoiaaDoorPGlyA
import Derived.Test.YtpjkbamkaicoiaaDoorPGlyP
import Derived.Test.YtpjkbamkaicoiaaDoorPJidP
import Derived.Test.YtpjkbamkaicoiaaDoorPStrs
import Derived.Test.YtpjkbamkaicoiaaDoorPShelf
import Derived.Test.YtpjkbamkaicoiaaDoorPRaP
import Derived.Test.YtpjkbamkaicoiaaDoorPRa2
import Derived.Test.YtpjkbamkaicoiaaDoorPRa1
import Derived.Test.YtpjkbamkaicoiaaDoorPRa0
import Derived.Test.YtpjkbamkaicoiaaDoorPg0
import Derived.Test.YtpjkbamkaicoiaaDoorPHanP
import Derived.Test.YtpjkbamkaicoiaaDoorPEscB
import Derived.Test.YtpjkbamkaicoiaaDoorPEscA
import Derived.Test.YtpjkbamkaicoiaaDoorPEscP
import Derived.Test.YtpjkbamkaicoiaaDoorPBld
import Derived.Test.YtpjkbamkaicoiaaDoorPHanA
import Derived.Test.YtpjkbamkaicoiaaDoorPRep
import Derived.Test.YtpjkbamkaicoiaaDoorPRc3
import Derived.Test.YtpjkbamkaicoiaaDoorPRc2
import Derived.Test.YtpjkbamkaicoiaaDoorPRc1
import Derived.Test.YtpjkbamkaicoiaaDoorPRc0
import Derived.Test.YtpjkbamkaicoiaaDoorPHanF
import Derived.Test.YtpjkbamkaicoiaaDoorPg4
import Derived.Test.YtpjkbamkaicoiaaDoorPg6
import Derived.Test.YtpjkbamkaicoiaaDoorPBox
import Derived.Test.YtpjkbamkaicoiaaDoorPg3

section
/- Worlds that keep blocks keep what is known of rows; Weight's bounds. (Printed by gen_sest.py.) -/
set_option linter.unusedVariables false
set_option linter.unusedSimpArgs false
namespace Go.Proofs.YtpjkbamkaicoiaaDoor.Ses
open Go.RowKit Go.Proofs.YtpjkbamkaicoiaaDoor.E
theorem wl_ge (it : Nat → ByteArray × ByteArray) (m : Int) : ∀ (j k : Nat) (acc : Int), acc ≤ wl it m j k acc
  | 0, _, acc => Int.le_refl _
  | j + 1, k, acc => by
    unfold wl
    split
    · have := wl_ge it m j (k + 1) (acc + 1 + ((it k).1.size : Int) + ((it k).2.size : Int))
      omega
    · exact Int.le_refl _
theorem wl_le (it : Nat → ByteArray × ByteArray) (m : Int) (hm : m ≤ 1000000) (n : Nat) (hz : ∀ i, i < n → (it i).1.size ≤ RB ∧ (it i).2.size ≤ RB) : ∀ (j k : Nat) (acc : Int), j + k ≤ n → acc ≤ 1000000000000000000 → wl it m j k acc ≤ 1000000000000000000
  | 0, _, acc, _, h => h
  | j + 1, k, acc, hk, h => by
    unfold wl
    split
    · have := hz k (by omega)
      unfold RB at this
      exact wl_le it m hm n hz j (k + 1) _ (by omega) (by omega)
    · exact h
theorem mem_same {w w' : World} (h : ∀ b, b < w.heap.size → w'.heap[b]? = w.heap[b]?) {a : Addr} (ha : a.block < w.heap.size) : w'.cell? a = w.cell? a := by
  unfold World.cell?
  rw [h _ ha]
theorem size_same {w w' : World} (h : ∀ b, b < w.heap.size → w'.heap[b]? = w.heap[b]?) {b : Nat} (hb : b < w.heap.size) : b < w'.heap.size := by
  have := h b hb
  rw [Array.getElem?_eq_getElem hb] at this
  exact (Array.getElem?_eq_some_iff.1 this).1
theorem ItemAt.same {w w' : World} (h : ∀ b, b < w.heap.size → w'.heap[b]? = w.heap[b]?) {ad : Addr} {i : Nat} {a b : ByteArray} (hi : ItemAt w ad i a b) : ItemAt w' ad i a b :=
  ⟨size_same h hi.lt, (mem_same h (by rw [addB]; exact hi.lt)).trans hi.c0, (mem_same h (by show (ad.add (i * 6)).block < _; rw [addB]; exact hi.lt)).trans hi.c4⟩
theorem Item6.same {w w' : World} (h : ∀ b, b < w.heap.size → w'.heap[b]? = w.heap[b]?) {ad : Addr} {i : Nat} {c0 : ByteArray} {c1 c2 c3 : Int} {c4 : ByteArray} {c5 : Bool} (hi : Item6 w ad i c0 c1 c2 c3 c4 c5) : Item6 w' ad i c0 c1 c2 c3 c4 c5 :=
  have hl : (ad.add (i * 6)).block < w.heap.size := by rw [addB]; exact hi.lt
  ⟨size_same h hi.lt, (mem_same h (by show (ad.add (i * 6)).block < _; exact hl)).trans hi.c0_, (mem_same h (by show (ad.add (i * 6)).block < _; exact hl)).trans hi.c1_, (mem_same h (by show (ad.add (i * 6)).block < _; exact hl)).trans hi.c2_, (mem_same h (by show (ad.add (i * 6)).block < _; exact hl)).trans hi.c3_, (mem_same h (by show (ad.add (i * 6)).block < _; exact hl)).trans hi.c4_, (mem_same h (by show (ad.add (i * 6)).block < _; exact hl)).trans hi.c5_⟩
theorem Items6.same {w w' : World} (h : ∀ b, b < w.heap.size → w'.heap[b]? = w.heap[b]?) {X : Option Addr} {n : Nat} (hi : Items6 w X n) : Items6 w' X n := fun i hl => by
  obtain ⟨ad, c0, c1, c2, c3, c4, c5, e, ha, z⟩ := hi i hl
  exact ⟨ad, c0, c1, c2, c3, c4, c5, e, ha.same h, z⟩
theorem Ints.same {w w' : World} (h : ∀ b, b < w.heap.size → w'.heap[b]? = w.heap[b]?) {X : Option Addr} {n : Nat} (hi : Ints w X n) : Ints w' X n := fun i hl => by
  obtain ⟨ad, z, e, hb, hc⟩ := hi i hl
  exact ⟨ad, z, e, size_same h hb, (mem_same h (by rw [addB]; exact hb)).trans hc⟩
theorem ItemsAre.same {w w' : World} (h : ∀ b, b < w.heap.size → w'.heap[b]? = w.heap[b]?) {X : Option Addr} {n : Nat} {it : Nat → ByteArray × ByteArray} (hi : ItemsAre w X n it) : ItemsAre w' X n it := fun i hl => by
  obtain ⟨ad, e, ha, z⟩ := hi i hl
  exact ⟨ad, e, ha.same h, z⟩
end Go.Proofs.YtpjkbamkaicoiaaDoor.Ses
end
