/-
  NARROWER THAN 'FOR EVERY INPUT', by the rows' own cells (each row's printed sentence says how): JidParses: laid · JidChecks: laid · JidBack: laid · JidCase: laid · JidParts: laid · JidNorm: laid.
  DERIVED. THE GIVEN ROWS OF THIS SEAT. 6 by the template 'for every input the law returns true; each argument reads behind the call as it read before'; 0 by the template 'total and deterministic' (their statements: YthifpbaebbodoaaDoorTotals.lean).
  GIVEN WITH THE SEED: the statements are not yours to turn. If you find one false, say at which input.
  Laid BY PROGRAM, IN A SANDBOX (cutbox-rows.mjs): the forced cells as the released guide's own fill.sh prints them over the translation af6c003f64e672c5… (all of the seat's roots in one cut). By AI agents, Wed Nov 11 2026. No macro, syntax, notation, axiom, sorry.
-/
import Derived.Test.YthifpbaebbodoaaDoorChecked
import GoSem.PinnedTables
import GoSem.Claim
import GoSem.ClaimJoined
import GoSem.ClaimMapViews
import Derived.JoinedTies
import Derived.KernelRfl
namespace Go.Proofs.YthifpbaebbodoaaDoor
/- THE CELL 'sum', in the pinned program and in every row, IS THE sha256 OF THE DUMP (.gsa) THAT YthifpbaebbodoaaDoorProg.lean LOADS. Nothing in Lean hashes anything: it is a label: what it is worth is what the hold of that sum in a sandbox is worth. -/
noncomputable def Tryd.pinned : Pinned := { name := "ythifpbaebbodoaadoor", sum := "af6c003f64e672c569e00d7883913273a00cfe99d7636ea61da35d343c79bb67", checked := Tryd.checked }
namespace Rows
def none {H : Type} : Left H := { results := [], args := [] }

/- WHAT THE LISTED PACKAGE-LEVEL VARIABLES READ AS WHEN THE CALL BEGINS. Each datum BY PROGRAM (the guide's laid-datum.mjs) off the statement by which the dump's own 'gosem.cut.vars' lays the variable. In a bare row this is a premise. The card (YthifpbaebbodoaaDoorCards.lean) ties it to the program's text. -/
def laid_unicode_utf8_acceptRanges {H : Type} : DataW H := .agg [.agg [.lit (.int .u8 128), .lit (.int .u8 191)], .agg [.lit (.int .u8 160), .lit (.int .u8 191)], .agg [.lit (.int .u8 128), .lit (.int .u8 159)], .agg [.lit (.int .u8 144), .lit (.int .u8 191)], .agg [.lit (.int .u8 128), .lit (.int .u8 143)], .agg [.lit (.int .u8 0), .lit (.int .u8 0)], .agg [.lit (.int .u8 0), .lit (.int .u8 0)], .agg [.lit (.int .u8 0), .lit (.int .u8 0)], .agg [.lit (.int .u8 0), .lit (.int .u8 0)], .agg [.lit (.int .u8 0), .lit (.int .u8 0)], .agg [.lit (.int .u8 0), .lit (.int .u8 0)], .agg [.lit (.int .u8 0), .lit (.int .u8 0)], .agg [.lit (.int .u8 0), .lit (.int .u8 0)], .agg [.lit (.int .u8 0), .lit (.int .u8 0)], .agg [.lit (.int .u8 0), .lit (.int .u8 0)], .agg [.lit (.int .u8 0), .lit (.int .u8 0)]]
/-- One of Go's own tables, pinned by name: the form's constant. -/
def laid_unicode_utf8_first : DataW Unit := Go.Pinned.utf8First

/-- 'wharflaw03.JidParses': WHATEVER THE INPUT: true; the input reads as it did. -/
def jidParsesSpec : ChangeSpec := { name := "jidParses", fn := fun _ => fun
  | [d] => { results := [.lit (.bool true)], args := [d] }
  | _ => none }
def jidParsesRow : OpenClaim := { program := "ythifpbaebbodoaadoor", sum := "af6c003f64e672c569e00d7883913273a00cfe99d7636ea61da35d343c79bb67", func := "wharf/wharflaw03.JidParses", spec := "jidParses", inPlace := ["internal/bytealg.IndexByteString", "internal/bytealg.IndexString", "internal/bytealg.CountString"], named := ["internal/bytealg.MaxLen", "unicode/utf8.first", "unicode/utf8.acceptRanges"], apart := false, laid := [("unicode/utf8.acceptRanges", laid_unicode_utf8_acceptRanges), ("unicode/utf8.first", laid_unicode_utf8_first)] }
def JidParsesSaid : Prop := jidParsesRow.holds Tryd.pinned (OpenSpec.ofChange jidParsesSpec)

/-- ITS FALSE NEIGHBOUR: 'it returns false'. Refute it at one input. -/
def jidParsesWrong : ChangeSpec := { name := "jidParses", fn := fun _ => fun
  | [d] => { results := [.lit (.bool false)], args := [d] }
  | _ => none }
def JidParsesWrongFalsely : Prop := jidParsesRow.holds Tryd.pinned (OpenSpec.ofChange jidParsesWrong)

/-- 'wharflaw03.JidChecks': WHATEVER THE INPUT: true; the input reads as it did. -/
def jidChecksSpec : ChangeSpec := { name := "jidChecks", fn := fun _ => fun
  | [d1, d2] => { results := [.lit (.bool true)], args := [d1, d2] }
  | _ => none }
def jidChecksRow : OpenClaim := { program := "ythifpbaebbodoaadoor", sum := "af6c003f64e672c569e00d7883913273a00cfe99d7636ea61da35d343c79bb67", func := "wharf/wharflaw03.JidChecks", spec := "jidChecks", inPlace := ["internal/bytealg.IndexByteString", "internal/bytealg.IndexString", "internal/bytealg.CountString"], named := ["internal/bytealg.MaxLen", "unicode/utf8.first", "unicode/utf8.acceptRanges"], apart := false, laid := [("unicode/utf8.acceptRanges", laid_unicode_utf8_acceptRanges), ("unicode/utf8.first", laid_unicode_utf8_first)] }
def JidChecksSaid : Prop := jidChecksRow.holds Tryd.pinned (OpenSpec.ofChange jidChecksSpec)

/-- ITS FALSE NEIGHBOUR: 'it returns false'. Refute it at one input. -/
def jidChecksWrong : ChangeSpec := { name := "jidChecks", fn := fun _ => fun
  | [d1, d2] => { results := [.lit (.bool false)], args := [d1, d2] }
  | _ => none }
def JidChecksWrongFalsely : Prop := jidChecksRow.holds Tryd.pinned (OpenSpec.ofChange jidChecksWrong)

/-- 'wharflaw03.JidBack': WHATEVER THE INPUT: true; the input reads as it did. -/
def jidBackSpec : ChangeSpec := { name := "jidBack", fn := fun _ => fun
  | [d1, d2] => { results := [.lit (.bool true)], args := [d1, d2] }
  | _ => none }
def jidBackRow : OpenClaim := { program := "ythifpbaebbodoaadoor", sum := "af6c003f64e672c569e00d7883913273a00cfe99d7636ea61da35d343c79bb67", func := "wharf/wharflaw03.JidBack", spec := "jidBack", inPlace := ["internal/bytealg.IndexByteString", "internal/bytealg.IndexString", "internal/bytealg.CountString"], named := ["internal/bytealg.MaxLen", "unicode/utf8.first", "unicode/utf8.acceptRanges"], apart := false, laid := [("unicode/utf8.acceptRanges", laid_unicode_utf8_acceptRanges), ("unicode/utf8.first", laid_unicode_utf8_first)] }
def JidBackSaid : Prop := jidBackRow.holds Tryd.pinned (OpenSpec.ofChange jidBackSpec)

/-- ITS FALSE NEIGHBOUR: 'it returns false'. Refute it at one input. -/
def jidBackWrong : ChangeSpec := { name := "jidBack", fn := fun _ => fun
  | [d1, d2] => { results := [.lit (.bool false)], args := [d1, d2] }
  | _ => none }
def JidBackWrongFalsely : Prop := jidBackRow.holds Tryd.pinned (OpenSpec.ofChange jidBackWrong)

/-- 'wharflaw03.JidCase': WHATEVER THE INPUT: true; the input reads as it did. -/
def jidCaseSpec : ChangeSpec := { name := "jidCase", fn := fun _ => fun
  | [d1, d2] => { results := [.lit (.bool true)], args := [d1, d2] }
  | _ => none }
def jidCaseRow : OpenClaim := { program := "ythifpbaebbodoaadoor", sum := "af6c003f64e672c569e00d7883913273a00cfe99d7636ea61da35d343c79bb67", func := "wharf/wharflaw03.JidCase", spec := "jidCase", inPlace := ["internal/bytealg.IndexByteString", "internal/bytealg.IndexString", "internal/bytealg.CountString"], named := ["internal/bytealg.MaxLen", "unicode/utf8.first", "unicode/utf8.acceptRanges"], apart := false, laid := [("unicode/utf8.acceptRanges", laid_unicode_utf8_acceptRanges), ("unicode/utf8.first", laid_unicode_utf8_first)] }
def JidCaseSaid : Prop := jidCaseRow.holds Tryd.pinned (OpenSpec.ofChange jidCaseSpec)

/-- ITS FALSE NEIGHBOUR: 'it returns false'. Refute it at one input. -/
def jidCaseWrong : ChangeSpec := { name := "jidCase", fn := fun _ => fun
  | [d1, d2] => { results := [.lit (.bool false)], args := [d1, d2] }
  | _ => none }
def JidCaseWrongFalsely : Prop := jidCaseRow.holds Tryd.pinned (OpenSpec.ofChange jidCaseWrong)

/-- 'wharflaw03.JidParts': WHATEVER THE INPUT: true; the input reads as it did. -/
def jidPartsSpec : ChangeSpec := { name := "jidParts", fn := fun _ => fun
  | [d1, d2] => { results := [.lit (.bool true)], args := [d1, d2] }
  | _ => none }
def jidPartsRow : OpenClaim := { program := "ythifpbaebbodoaadoor", sum := "af6c003f64e672c569e00d7883913273a00cfe99d7636ea61da35d343c79bb67", func := "wharf/wharflaw03.JidParts", spec := "jidParts", inPlace := ["internal/bytealg.IndexByteString", "internal/bytealg.CountString", "internal/bytealg.IndexString"], named := ["unicode/utf8.first", "unicode/utf8.acceptRanges", "internal/bytealg.MaxLen"], apart := false, laid := [("unicode/utf8.acceptRanges", laid_unicode_utf8_acceptRanges), ("unicode/utf8.first", laid_unicode_utf8_first)] }
def JidPartsSaid : Prop := jidPartsRow.holds Tryd.pinned (OpenSpec.ofChange jidPartsSpec)

/-- ITS FALSE NEIGHBOUR: 'it returns false'. Refute it at one input. -/
def jidPartsWrong : ChangeSpec := { name := "jidParts", fn := fun _ => fun
  | [d1, d2] => { results := [.lit (.bool false)], args := [d1, d2] }
  | _ => none }
def JidPartsWrongFalsely : Prop := jidPartsRow.holds Tryd.pinned (OpenSpec.ofChange jidPartsWrong)

/-- 'wharflaw03.JidNorm': WHATEVER THE INPUT: true; the input reads as it did. -/
def jidNormSpec : ChangeSpec := { name := "jidNorm", fn := fun _ => fun
  | [d] => { results := [.lit (.bool true)], args := [d] }
  | _ => none }
def jidNormRow : OpenClaim := { program := "ythifpbaebbodoaadoor", sum := "af6c003f64e672c569e00d7883913273a00cfe99d7636ea61da35d343c79bb67", func := "wharf/wharflaw03.JidNorm", spec := "jidNorm", inPlace := ["internal/bytealg.IndexByteString", "internal/bytealg.IndexString", "internal/bytealg.CountString"], named := ["internal/bytealg.MaxLen", "unicode/utf8.first", "unicode/utf8.acceptRanges"], apart := false, laid := [("unicode/utf8.acceptRanges", laid_unicode_utf8_acceptRanges), ("unicode/utf8.first", laid_unicode_utf8_first)] }
def JidNormSaid : Prop := jidNormRow.holds Tryd.pinned (OpenSpec.ofChange jidNormSpec)

/-- ITS FALSE NEIGHBOUR: 'it returns false'. Refute it at one input. -/
def jidNormWrong : ChangeSpec := { name := "jidNorm", fn := fun _ => fun
  | [d] => { results := [.lit (.bool false)], args := [d] }
  | _ => none }
def JidNormWrongFalsely : Prop := jidNormRow.holds Tryd.pinned (OpenSpec.ofChange jidNormWrong)

/- THE SECOND FORM. 'bulk': how many values and letters a reading holds, each counted each time it is reached (what is shared counts as often as it is met; a slice's spare places count too). A statement '..UptoSaid' is the law's where the arguments, and the package variables that the reading takes, are together of bulk at most 1048576: NARROWER than '..Said'. Prove '..Said' where nothing that the law and all that it calls make is longer than what came in: it says more and counts as full. Else prove '..UptoSaid'. A law counts once. -/
mutual
def uptoBulk {H : Type} : DataW H → Nat
  | .lit (.string bytes) => bytes.length + 1
  | .lit _ => 1
  | .nil => 1
  | .ptr d => uptoBulk d + 1
  | .slice elems spare => uptoBulkAll elems + uptoBulkAll spare + 1
  | .agg parts => uptoBulkAll parts + 1
  | .iface _ d => uptoBulk d + 1
  | .map entries => uptoBulkEntries entries + 1
  | .held _ => 1
def uptoBulkAll {H : Type} : List (DataW H) → Nat
  | [] => 0
  | d :: r => uptoBulk d + uptoBulkAll r
def uptoBulkEntries {H : Type} : List (Lit × DataW H) → Nat
  | [] => 0
  | x :: r => uptoBulkEntry x + uptoBulkEntries r
def uptoBulkEntry {H : Type} : Lit × DataW H → Nat
  | (.string bytes, d) => bytes.length + uptoBulk d + 1
  | (_, d) => uptoBulk d + 1
 end
def uptoSmall : (H : Type) → List (DataW H) → Bool := fun _ ds => decide (uptoBulkAll ds ≤ 1048576)
def OpenSpec.upto (s : _root_.Go.ChangeSpec) : _root_.Go.OpenSpec := { _root_.Go.OpenSpec.ofChange s with cond := some uptoSmall }

/-- 'wharflaw03.JidParses', WHERE WHAT IT READS IS OF BULK AT MOST 1048576: true; the input reads as it did. -/
def jidParsesUptoRow : OpenClaim := { program := "ythifpbaebbodoaadoor", sum := "af6c003f64e672c569e00d7883913273a00cfe99d7636ea61da35d343c79bb67", func := "wharf/wharflaw03.JidParses", spec := "jidParses", inPlace := ["internal/bytealg.IndexByteString", "internal/bytealg.IndexString", "internal/bytealg.CountString"], named := ["internal/bytealg.MaxLen", "unicode/utf8.first", "unicode/utf8.acceptRanges"], apart := false, laid := [("unicode/utf8.acceptRanges", laid_unicode_utf8_acceptRanges), ("unicode/utf8.first", laid_unicode_utf8_first)], narrowed := true }
def JidParsesUptoSaid : Prop := jidParsesUptoRow.holds Tryd.pinned (OpenSpec.upto jidParsesSpec)

/-- 'wharflaw03.JidChecks', WHERE WHAT IT READS IS OF BULK AT MOST 1048576: true; the input reads as it did. -/
def jidChecksUptoRow : OpenClaim := { program := "ythifpbaebbodoaadoor", sum := "af6c003f64e672c569e00d7883913273a00cfe99d7636ea61da35d343c79bb67", func := "wharf/wharflaw03.JidChecks", spec := "jidChecks", inPlace := ["internal/bytealg.IndexByteString", "internal/bytealg.IndexString", "internal/bytealg.CountString"], named := ["internal/bytealg.MaxLen", "unicode/utf8.first", "unicode/utf8.acceptRanges"], apart := false, laid := [("unicode/utf8.acceptRanges", laid_unicode_utf8_acceptRanges), ("unicode/utf8.first", laid_unicode_utf8_first)], narrowed := true }
def JidChecksUptoSaid : Prop := jidChecksUptoRow.holds Tryd.pinned (OpenSpec.upto jidChecksSpec)

/-- 'wharflaw03.JidBack', WHERE WHAT IT READS IS OF BULK AT MOST 1048576: true; the input reads as it did. -/
def jidBackUptoRow : OpenClaim := { program := "ythifpbaebbodoaadoor", sum := "af6c003f64e672c569e00d7883913273a00cfe99d7636ea61da35d343c79bb67", func := "wharf/wharflaw03.JidBack", spec := "jidBack", inPlace := ["internal/bytealg.IndexByteString", "internal/bytealg.IndexString", "internal/bytealg.CountString"], named := ["internal/bytealg.MaxLen", "unicode/utf8.first", "unicode/utf8.acceptRanges"], apart := false, laid := [("unicode/utf8.acceptRanges", laid_unicode_utf8_acceptRanges), ("unicode/utf8.first", laid_unicode_utf8_first)], narrowed := true }
def JidBackUptoSaid : Prop := jidBackUptoRow.holds Tryd.pinned (OpenSpec.upto jidBackSpec)

/-- 'wharflaw03.JidCase', WHERE WHAT IT READS IS OF BULK AT MOST 1048576: true; the input reads as it did. -/
def jidCaseUptoRow : OpenClaim := { program := "ythifpbaebbodoaadoor", sum := "af6c003f64e672c569e00d7883913273a00cfe99d7636ea61da35d343c79bb67", func := "wharf/wharflaw03.JidCase", spec := "jidCase", inPlace := ["internal/bytealg.IndexByteString", "internal/bytealg.IndexString", "internal/bytealg.CountString"], named := ["internal/bytealg.MaxLen", "unicode/utf8.first", "unicode/utf8.acceptRanges"], apart := false, laid := [("unicode/utf8.acceptRanges", laid_unicode_utf8_acceptRanges), ("unicode/utf8.first", laid_unicode_utf8_first)], narrowed := true }
def JidCaseUptoSaid : Prop := jidCaseUptoRow.holds Tryd.pinned (OpenSpec.upto jidCaseSpec)

/-- 'wharflaw03.JidParts', WHERE WHAT IT READS IS OF BULK AT MOST 1048576: true; the input reads as it did. -/
def jidPartsUptoRow : OpenClaim := { program := "ythifpbaebbodoaadoor", sum := "af6c003f64e672c569e00d7883913273a00cfe99d7636ea61da35d343c79bb67", func := "wharf/wharflaw03.JidParts", spec := "jidParts", inPlace := ["internal/bytealg.IndexByteString", "internal/bytealg.CountString", "internal/bytealg.IndexString"], named := ["unicode/utf8.first", "unicode/utf8.acceptRanges", "internal/bytealg.MaxLen"], apart := false, laid := [("unicode/utf8.acceptRanges", laid_unicode_utf8_acceptRanges), ("unicode/utf8.first", laid_unicode_utf8_first)], narrowed := true }
def JidPartsUptoSaid : Prop := jidPartsUptoRow.holds Tryd.pinned (OpenSpec.upto jidPartsSpec)

/-- 'wharflaw03.JidNorm', WHERE WHAT IT READS IS OF BULK AT MOST 1048576: true; the input reads as it did. -/
def jidNormUptoRow : OpenClaim := { program := "ythifpbaebbodoaadoor", sum := "af6c003f64e672c569e00d7883913273a00cfe99d7636ea61da35d343c79bb67", func := "wharf/wharflaw03.JidNorm", spec := "jidNorm", inPlace := ["internal/bytealg.IndexByteString", "internal/bytealg.IndexString", "internal/bytealg.CountString"], named := ["internal/bytealg.MaxLen", "unicode/utf8.first", "unicode/utf8.acceptRanges"], apart := false, laid := [("unicode/utf8.acceptRanges", laid_unicode_utf8_acceptRanges), ("unicode/utf8.first", laid_unicode_utf8_first)], narrowed := true }
def JidNormUptoSaid : Prop := jidNormUptoRow.holds Tryd.pinned (OpenSpec.upto jidNormSpec)

end Rows
end Go.Proofs.YthifpbaebbodoaaDoor
