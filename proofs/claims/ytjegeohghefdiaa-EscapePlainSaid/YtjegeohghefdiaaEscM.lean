/- What the printed functions of layer 2 come to, below 2^45 bytes; that the live examples hold. -/
import Derived.Test.YtjegeohghefdiaaEscL
import Derived.Test.YtjegeohghefdiaaPx1
namespace Go.Proofs.Ytjegeohghefdiaa.EscM
open Go.RowKit Go.Proofs.Ytjegeohghefdiaa.Px Go.Proofs.Ytjegeohghefdiaa.F Go.Proofs.YtjegeohghefdiaaW.PrintWords EscP Esc

theorem live_holds : wharflaw02_live.f = some true := by decide +kernel
theorem num_f (n : Int) : wharflaw02_num.f n = some n := rfl
theorem esc_bad (s : ByteArray) (h : s.size ≤ 1000000) (hb : bad s.data.toList = true) : escape_Escape.f s = some (ByteArray.empty, 20) := by
  unfold escape_Escape.f lim; rw [if_pos (by omega), hb]; rfl
theorem esc_good (s : ByteArray) (h : s.size ≤ 1000000) (hb : bad s.data.toList = false) : escape_Escape.f s = some (⟨(escG s.data.toList).toArray⟩, 0) := by
  unfold escape_Escape.f lim; rw [if_pos (by omega), hb]; rfl
theorem resc_same : wharfref02_Escape.f = escape_Escape.f := rfl
theorem unesc (s : ByteArray) (h : s.size ≤ 1000000) : escape_Unescape.f s = some ⟨(un s.data.toList).toArray⟩ := by
  unfold escape_Unescape.f lim; rw [if_pos (by omega)]
theorem runesc_same : wharfref02_Unescape.f = escape_Unescape.f := rfl
theorem is_ok (s : ByteArray) (h : s.size ≤ 1000000) : escape_Is.f s = some (isOk s.data.toList) := by
  unfold escape_Is.f lim; rw [if_pos (by omega)]
theorem ris_same : wharfref02_Is.f = escape_Is.f := rfl
theorem mk_size (l : List UInt8) : (⟨l.toArray⟩ : ByteArray).size = l.length := by simp [ByteArray.size]
theorem mk_list (l : List UInt8) : (⟨l.toArray⟩ : ByteArray).data.toList = l := rfl
theorem toList_mk (l : List UInt8) : (⟨l.toArray⟩ : ByteArray).toList = l := by rw [Lib.toList_data]
end Go.Proofs.Ytjegeohghefdiaa.EscM
