/-
  NARROWER THAN 'FOR EVERY INPUT', by the rows' own cells (each row's printed sentence says how): QuotePlain: laid · QuoteBack: laid · QuoteCuts: laid.
  DERIVED. THE GIVEN ROWS OF THIS SEAT. 3 by the template 'for every input the law returns true; each argument reads behind the call as it read before'; 0 by the template 'total and deterministic' (their statements: YtcicokognbcjdaaDoorTotals.lean).
  GIVEN WITH THE SEED: the statements are not yours to turn. If you find one false, say at which input.
  Laid BY PROGRAM, IN A SANDBOX (cutbox-rows.mjs): the forced cells as the released guide's own fill.sh prints them over the translation 743faa2d59bdecfe… (all of the seat's roots in one cut). By AI agents, Wed Nov 11 2026. No macro, syntax, notation, axiom, sorry.
-/
import Derived.Test.YtcicokognbcjdaaDoorChecked
import GoSem.Claim
import GoSem.ClaimJoined
import GoSem.ClaimMapViews
import Derived.JoinedTies
import Derived.KernelRfl
namespace Go.Proofs.YtcicokognbcjdaaDoor
/- THE CELL 'sum', in the pinned program and in every row, IS THE sha256 OF THE DUMP (.gsa) THAT YtcicokognbcjdaaDoorProg.lean LOADS. Nothing in Lean hashes anything: it is a label: what it is worth is what the hold of that sum in a sandbox is worth. -/
noncomputable def Tryd.pinned : Pinned := { name := "ytcicokognbcjdaadoor", sum := "743faa2d59bdecfeba18ef3b7e02414d9d3bfc4a33bd286f725cfd958fe038c8", checked := Tryd.checked }
namespace Rows
def none {H : Type} : Left H := { results := [], args := [] }

/- WHAT THE LISTED PACKAGE-LEVEL VARIABLES READ AS WHEN THE CALL BEGINS. Each datum BY PROGRAM (the guide's laid-datum.mjs) off the statement by which the dump's own 'gosem.cut.vars' lays the variable. In a bare row this is a premise. The card (YtcicokognbcjdaaDoorCards.lean) ties it to the program's text. -/
def laid_proctor_quote_marks {H : Type} : DataW H := .agg [.lit (.int .u8 34), .lit (.int .u8 92), .lit (.int .u8 10), .lit (.int .u8 13), .lit (.int .u8 9)]
def laid_proctor_quote_letters {H : Type} : DataW H := .agg [.lit (.int .u8 34), .lit (.int .u8 92), .lit (.int .u8 110), .lit (.int .u8 114), .lit (.int .u8 116)]

/-- 'proctorlaw02.QuotePlain': WHATEVER THE INPUT: true; the input reads as it did. -/
def quotePlainSpec : ChangeSpec := { name := "quotePlain", fn := fun _ => fun
  | [d] => { results := [.lit (.bool true)], args := [d] }
  | _ => none }
def quotePlainRow : OpenClaim := { program := "ytcicokognbcjdaadoor", sum := "743faa2d59bdecfeba18ef3b7e02414d9d3bfc4a33bd286f725cfd958fe038c8", func := "proctor/proctorlaw02.QuotePlain", spec := "quotePlain", inPlace := ["internal/abi.NoEscape"], named := ["proctor/quote.marks", "proctor/quote.letters"], apart := false, laid := [("proctor/quote.marks", laid_proctor_quote_marks), ("proctor/quote.letters", laid_proctor_quote_letters)] }
def QuotePlainSaid : Prop := quotePlainRow.holds Tryd.pinned (OpenSpec.ofChange quotePlainSpec)

/-- ITS FALSE NEIGHBOUR: 'it returns false'. Refute it at one input. -/
def quotePlainWrong : ChangeSpec := { name := "quotePlain", fn := fun _ => fun
  | [d] => { results := [.lit (.bool false)], args := [d] }
  | _ => none }
def QuotePlainWrongFalsely : Prop := quotePlainRow.holds Tryd.pinned (OpenSpec.ofChange quotePlainWrong)

/-- 'proctorlaw02.QuoteBack': WHATEVER THE INPUT: true; the input reads as it did. -/
def quoteBackSpec : ChangeSpec := { name := "quoteBack", fn := fun _ => fun
  | [d1, d2] => { results := [.lit (.bool true)], args := [d1, d2] }
  | _ => none }
def quoteBackRow : OpenClaim := { program := "ytcicokognbcjdaadoor", sum := "743faa2d59bdecfeba18ef3b7e02414d9d3bfc4a33bd286f725cfd958fe038c8", func := "proctor/proctorlaw02.QuoteBack", spec := "quoteBack", inPlace := ["internal/abi.NoEscape", "internal/bytealg.IndexByteString"], unfollowed := true, recurses := true, named := ["proctor/quote.marks", "proctor/quote.letters"], apart := false, laid := [("proctor/quote.marks", laid_proctor_quote_marks), ("proctor/quote.letters", laid_proctor_quote_letters)] }
def QuoteBackSaid : Prop := quoteBackRow.holds Tryd.pinned (OpenSpec.ofChange quoteBackSpec)

/-- ITS FALSE NEIGHBOUR: 'it returns false'. Refute it at one input. -/
def quoteBackWrong : ChangeSpec := { name := "quoteBack", fn := fun _ => fun
  | [d1, d2] => { results := [.lit (.bool false)], args := [d1, d2] }
  | _ => none }
def QuoteBackWrongFalsely : Prop := quoteBackRow.holds Tryd.pinned (OpenSpec.ofChange quoteBackWrong)

/-- 'proctorlaw02.QuoteCuts': WHATEVER THE INPUT: true; the input reads as it did. -/
def quoteCutsSpec : ChangeSpec := { name := "quoteCuts", fn := fun _ => fun
  | [d] => { results := [.lit (.bool true)], args := [d] }
  | _ => none }
def quoteCutsRow : OpenClaim := { program := "ytcicokognbcjdaadoor", sum := "743faa2d59bdecfeba18ef3b7e02414d9d3bfc4a33bd286f725cfd958fe038c8", func := "proctor/proctorlaw02.QuoteCuts", spec := "quoteCuts", inPlace := ["internal/abi.NoEscape", "internal/bytealg.IndexByteString"], unfollowed := true, recurses := true, named := ["proctor/quote.marks", "proctor/quote.letters"], apart := false, laid := [("proctor/quote.marks", laid_proctor_quote_marks), ("proctor/quote.letters", laid_proctor_quote_letters)] }
def QuoteCutsSaid : Prop := quoteCutsRow.holds Tryd.pinned (OpenSpec.ofChange quoteCutsSpec)

/-- ITS FALSE NEIGHBOUR: 'it returns false'. Refute it at one input. -/
def quoteCutsWrong : ChangeSpec := { name := "quoteCuts", fn := fun _ => fun
  | [d] => { results := [.lit (.bool false)], args := [d] }
  | _ => none }
def QuoteCutsWrongFalsely : Prop := quoteCutsRow.holds Tryd.pinned (OpenSpec.ofChange quoteCutsWrong)

/- THE SECOND FORM. 'bulk': how many values and letters a reading holds, each counted each time it is reached (what is shared counts as often as it is met; a slice's spare places count too). A statement '..UptoSaid' is the law's where the arguments, and the package variables that the reading takes, are together of bulk at most 1048576: NARROWER than '..Said'. Prove '..Said' where nothing that the law and all that it calls make is longer than what came in: it says more and counts as full. Else prove '..UptoSaid'. A law counts once. -/
mutual
def uptoBulk {H : Type} : DataW H → Nat
  | .lit (.string bytes) => bytes.length + 1
  | .lit _ => 1
  | .nil => 1
  | .ptr d => uptoBulk d + 1
  | .slice elems spare => uptoBulkAll elems + uptoBulkAll spare + 1
  | .agg parts => uptoBulkAll parts + 1
  | .iface _ d => uptoBulk d + 1
  | .map entries => uptoBulkEntries entries + 1
  | .held _ => 1
def uptoBulkAll {H : Type} : List (DataW H) → Nat
  | [] => 0
  | d :: r => uptoBulk d + uptoBulkAll r
def uptoBulkEntries {H : Type} : List (Lit × DataW H) → Nat
  | [] => 0
  | x :: r => uptoBulkEntry x + uptoBulkEntries r
def uptoBulkEntry {H : Type} : Lit × DataW H → Nat
  | (.string bytes, d) => bytes.length + uptoBulk d + 1
  | (_, d) => uptoBulk d + 1
 end
def uptoSmall : (H : Type) → List (DataW H) → Bool := fun _ ds => decide (uptoBulkAll ds ≤ 1048576)
def OpenSpec.upto (s : _root_.Go.ChangeSpec) : _root_.Go.OpenSpec := { _root_.Go.OpenSpec.ofChange s with cond := some uptoSmall }

/-- 'proctorlaw02.QuotePlain', WHERE WHAT IT READS IS OF BULK AT MOST 1048576: true; the input reads as it did. -/
def quotePlainUptoRow : OpenClaim := { program := "ytcicokognbcjdaadoor", sum := "743faa2d59bdecfeba18ef3b7e02414d9d3bfc4a33bd286f725cfd958fe038c8", func := "proctor/proctorlaw02.QuotePlain", spec := "quotePlain", inPlace := ["internal/abi.NoEscape"], named := ["proctor/quote.marks", "proctor/quote.letters"], apart := false, laid := [("proctor/quote.marks", laid_proctor_quote_marks), ("proctor/quote.letters", laid_proctor_quote_letters)], narrowed := true }
def QuotePlainUptoSaid : Prop := quotePlainUptoRow.holds Tryd.pinned (OpenSpec.upto quotePlainSpec)

/-- 'proctorlaw02.QuoteBack', WHERE WHAT IT READS IS OF BULK AT MOST 1048576: true; the input reads as it did. -/
def quoteBackUptoRow : OpenClaim := { program := "ytcicokognbcjdaadoor", sum := "743faa2d59bdecfeba18ef3b7e02414d9d3bfc4a33bd286f725cfd958fe038c8", func := "proctor/proctorlaw02.QuoteBack", spec := "quoteBack", inPlace := ["internal/abi.NoEscape", "internal/bytealg.IndexByteString"], unfollowed := true, recurses := true, named := ["proctor/quote.marks", "proctor/quote.letters"], apart := false, laid := [("proctor/quote.marks", laid_proctor_quote_marks), ("proctor/quote.letters", laid_proctor_quote_letters)], narrowed := true }
def QuoteBackUptoSaid : Prop := quoteBackUptoRow.holds Tryd.pinned (OpenSpec.upto quoteBackSpec)

/-- 'proctorlaw02.QuoteCuts', WHERE WHAT IT READS IS OF BULK AT MOST 1048576: true; the input reads as it did. -/
def quoteCutsUptoRow : OpenClaim := { program := "ytcicokognbcjdaadoor", sum := "743faa2d59bdecfeba18ef3b7e02414d9d3bfc4a33bd286f725cfd958fe038c8", func := "proctor/proctorlaw02.QuoteCuts", spec := "quoteCuts", inPlace := ["internal/abi.NoEscape", "internal/bytealg.IndexByteString"], unfollowed := true, recurses := true, named := ["proctor/quote.marks", "proctor/quote.letters"], apart := false, laid := [("proctor/quote.marks", laid_proctor_quote_marks), ("proctor/quote.letters", laid_proctor_quote_letters)], narrowed := true }
def QuoteCutsUptoSaid : Prop := quoteCutsUptoRow.holds Tryd.pinned (OpenSpec.upto quoteCutsSpec)

end Rows
end Go.Proofs.YtcicokognbcjdaaDoor
