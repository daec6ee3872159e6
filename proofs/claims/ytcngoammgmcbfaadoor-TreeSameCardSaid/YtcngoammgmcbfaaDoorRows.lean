/-
  NARROWER THAN 'FOR EVERY INPUT', by the rows' own cells (each row's printed sentence says how): TreeSame: laid · SchemaNames: laid · SchemaChecks: laid · SchemaSame: laid · NumDivides: laid · NumSums: laid · VerdictNames: laid · NumAdds: laid · NumOps: laid.
  DERIVED. THE GIVEN ROWS OF THIS SEAT. 9 by the template 'for every input the law returns true; each argument reads behind the call as it read before'; 0 by the template 'total and deterministic' (their statements: YtcngoammgmcbfaaDoorTotals.lean).
  GIVEN WITH THE SEED: the statements are not yours to turn. If you find one false, say at which input.
  Laid BY PROGRAM, IN A SANDBOX (cutbox-rows.mjs): the forced cells as the released guide's own fill.sh prints them over the translation 9cb4cb3cdad9205e… (all of the seat's roots in one cut). By AI agents, Wed Nov 11 2026. No macro, syntax, notation, axiom, sorry.
-/
import Derived.Test.YtcngoammgmcbfaaDoorChecked
import GoSem.Claim
import GoSem.ClaimJoined
import GoSem.ClaimMapViews
import Derived.JoinedTies
import Derived.KernelRfl
namespace Go.Proofs.YtcngoammgmcbfaaDoor
/- THE CELL 'sum', in the pinned program and in every row, IS THE sha256 OF THE DUMP (.gsa) THAT YtcngoammgmcbfaaDoorProg.lean LOADS. Nothing in Lean hashes anything: it is a label: what it is worth is what the hold of that sum in a sandbox is worth. -/
noncomputable def Tryd.pinned : Pinned := { name := "ytcngoammgmcbfaadoor", sum := "9cb4cb3cdad9205e15aaf47153bfebf8239790f8de468c2d94c405fe582763c6", checked := Tryd.checked }
namespace Rows
def none {H : Type} : Left H := { results := [], args := [] }

/- WHAT THE LISTED PACKAGE-LEVEL VARIABLES READ AS WHEN THE CALL BEGINS. Each datum BY PROGRAM (the guide's laid-datum.mjs) off the statement by which the dump's own 'gosem.cut.vars' lays the variable. In a bare row this is a premise. The card (YtcngoammgmcbfaaDoorCards.lean) ties it to the program's text. -/
def laid_proctor_schema_words {H : Type} : DataW H := .agg [.lit (.string [97, 99, 99, 101, 112, 116]), .lit (.string [97, 108, 115, 111]), .lit (.string [97, 110, 100]), .lit (.string [98, 111, 111, 108]), .lit (.string [100, 111]), .lit (.string [101, 118, 101, 110, 116]), .lit (.string [101, 120, 105, 115, 116, 115]), .lit (.string [102, 97, 108, 115, 101]), .lit (.string [102, 111, 114, 97, 108, 108]), .lit (.string [102, 114, 101, 101]), .lit (.string [105, 102]), .lit (.string [105, 110, 116]), .lit (.string [110, 101, 120, 116]), .lit (.string [110, 111, 116]), .lit (.string [111, 110]), .lit (.string [111, 114]), .lit (.string [113, 101, 97]), .lit (.string [115, 107, 105, 112]), .lit (.string [115, 116, 97, 114, 116]), .lit (.string [115, 116, 114, 105, 110, 103]), .lit (.string [116, 111]), .lit (.string [116, 114, 117, 101])]
def laid_math_bits_deBruijn32tab {H : Type} : DataW H := .agg [.lit (.int .u8 0), .lit (.int .u8 1), .lit (.int .u8 28), .lit (.int .u8 2), .lit (.int .u8 29), .lit (.int .u8 14), .lit (.int .u8 24), .lit (.int .u8 3), .lit (.int .u8 30), .lit (.int .u8 22), .lit (.int .u8 20), .lit (.int .u8 15), .lit (.int .u8 25), .lit (.int .u8 17), .lit (.int .u8 4), .lit (.int .u8 8), .lit (.int .u8 31), .lit (.int .u8 27), .lit (.int .u8 13), .lit (.int .u8 23), .lit (.int .u8 21), .lit (.int .u8 19), .lit (.int .u8 16), .lit (.int .u8 7), .lit (.int .u8 26), .lit (.int .u8 12), .lit (.int .u8 18), .lit (.int .u8 6), .lit (.int .u8 11), .lit (.int .u8 5), .lit (.int .u8 10), .lit (.int .u8 9)]
def laid_math_bits_deBruijn64tab {H : Type} : DataW H := .agg [.lit (.int .u8 0), .lit (.int .u8 1), .lit (.int .u8 56), .lit (.int .u8 2), .lit (.int .u8 57), .lit (.int .u8 49), .lit (.int .u8 28), .lit (.int .u8 3), .lit (.int .u8 61), .lit (.int .u8 58), .lit (.int .u8 42), .lit (.int .u8 50), .lit (.int .u8 38), .lit (.int .u8 29), .lit (.int .u8 17), .lit (.int .u8 4), .lit (.int .u8 62), .lit (.int .u8 47), .lit (.int .u8 59), .lit (.int .u8 36), .lit (.int .u8 45), .lit (.int .u8 43), .lit (.int .u8 51), .lit (.int .u8 22), .lit (.int .u8 53), .lit (.int .u8 39), .lit (.int .u8 33), .lit (.int .u8 30), .lit (.int .u8 24), .lit (.int .u8 18), .lit (.int .u8 12), .lit (.int .u8 5), .lit (.int .u8 63), .lit (.int .u8 55), .lit (.int .u8 48), .lit (.int .u8 27), .lit (.int .u8 60), .lit (.int .u8 41), .lit (.int .u8 37), .lit (.int .u8 16), .lit (.int .u8 46), .lit (.int .u8 35), .lit (.int .u8 44), .lit (.int .u8 21), .lit (.int .u8 52), .lit (.int .u8 32), .lit (.int .u8 23), .lit (.int .u8 11), .lit (.int .u8 54), .lit (.int .u8 26), .lit (.int .u8 40), .lit (.int .u8 15), .lit (.int .u8 34), .lit (.int .u8 20), .lit (.int .u8 31), .lit (.int .u8 10), .lit (.int .u8 25), .lit (.int .u8 14), .lit (.int .u8 19), .lit (.int .u8 9), .lit (.int .u8 13), .lit (.int .u8 8), .lit (.int .u8 7), .lit (.int .u8 6)]
def laid_internal_strconv_uint64pow10 {H : Type} : DataW H := .agg [.lit (.int .u64 1), .lit (.int .u64 10), .lit (.int .u64 100), .lit (.int .u64 1000), .lit (.int .u64 10000), .lit (.int .u64 100000), .lit (.int .u64 1000000), .lit (.int .u64 10000000), .lit (.int .u64 100000000), .lit (.int .u64 1000000000), .lit (.int .u64 10000000000), .lit (.int .u64 100000000000), .lit (.int .u64 1000000000000), .lit (.int .u64 10000000000000), .lit (.int .u64 100000000000000), .lit (.int .u64 1000000000000000), .lit (.int .u64 10000000000000000), .lit (.int .u64 100000000000000000), .lit (.int .u64 1000000000000000000), .lit (.int .u64 10000000000000000000)]
def laid_proctor_verdict_names {H : Type} : DataW H := .agg [.lit (.string [115, 117, 114, 101, 45, 116, 114, 117, 101]), .lit (.string [110, 111, 119, 45, 116, 114, 117, 101]), .lit (.string [110, 111, 119, 45, 102, 97, 108, 115, 101]), .lit (.string [115, 117, 114, 101, 45, 102, 97, 108, 115, 101])]

/-- 'proctorlaw10.TreeSame': WHATEVER THE INPUT: true; the input reads as it did. -/
def treeSameSpec : ChangeSpec := { name := "treeSame", fn := fun _ => fun
  | [d1, d2] => { results := [.lit (.bool true)], args := [d1, d2] }
  | _ => none }
def treeSameRow : OpenClaim := { program := "ytcngoammgmcbfaadoor", sum := "9cb4cb3cdad9205e15aaf47153bfebf8239790f8de468c2d94c405fe582763c6", func := "proctor/proctorlaw10.TreeSame", spec := "treeSame", unfollowed := true, recurses := true, named := ["proctor/schema.words"], apart := false, laid := [("proctor/schema.words", laid_proctor_schema_words)] }
def TreeSameSaid : Prop := treeSameRow.holds Tryd.pinned (OpenSpec.ofChange treeSameSpec)

/-- ITS FALSE NEIGHBOUR: 'it returns false'. Refute it at one input. -/
def treeSameWrong : ChangeSpec := { name := "treeSame", fn := fun _ => fun
  | [d1, d2] => { results := [.lit (.bool false)], args := [d1, d2] }
  | _ => none }
def TreeSameWrongFalsely : Prop := treeSameRow.holds Tryd.pinned (OpenSpec.ofChange treeSameWrong)

/-- 'proctorlaw07.SchemaNames': WHATEVER THE INPUT: true; the input reads as it did. -/
def schemaNamesSpec : ChangeSpec := { name := "schemaNames", fn := fun _ => fun
  | [d] => { results := [.lit (.bool true)], args := [d] }
  | _ => none }
def schemaNamesRow : OpenClaim := { program := "ytcngoammgmcbfaadoor", sum := "9cb4cb3cdad9205e15aaf47153bfebf8239790f8de468c2d94c405fe582763c6", func := "proctor/proctorlaw07.SchemaNames", spec := "schemaNames", inPlace := ["internal/abi.NoEscape", "internal/bytealg.MakeNoZero"], unfollowed := true, recurses := true, named := ["proctor/schema.words"], apart := false, laid := [("proctor/schema.words", laid_proctor_schema_words)] }
def SchemaNamesSaid : Prop := schemaNamesRow.holds Tryd.pinned (OpenSpec.ofChange schemaNamesSpec)

/-- ITS FALSE NEIGHBOUR: 'it returns false'. Refute it at one input. -/
def schemaNamesWrong : ChangeSpec := { name := "schemaNames", fn := fun _ => fun
  | [d] => { results := [.lit (.bool false)], args := [d] }
  | _ => none }
def SchemaNamesWrongFalsely : Prop := schemaNamesRow.holds Tryd.pinned (OpenSpec.ofChange schemaNamesWrong)

/-- 'proctorlaw07.SchemaChecks': WHATEVER THE INPUT: true; the input reads as it did. -/
def schemaChecksSpec : ChangeSpec := { name := "schemaChecks", fn := fun _ => fun
  | [d1, d2] => { results := [.lit (.bool true)], args := [d1, d2] }
  | _ => none }
def schemaChecksRow : OpenClaim := { program := "ytcngoammgmcbfaadoor", sum := "9cb4cb3cdad9205e15aaf47153bfebf8239790f8de468c2d94c405fe582763c6", func := "proctor/proctorlaw07.SchemaChecks", spec := "schemaChecks", inPlace := ["internal/abi.NoEscape", "internal/bytealg.MakeNoZero"], unfollowed := true, recurses := true, named := ["proctor/schema.words"], apart := false, laid := [("proctor/schema.words", laid_proctor_schema_words)] }
def SchemaChecksSaid : Prop := schemaChecksRow.holds Tryd.pinned (OpenSpec.ofChange schemaChecksSpec)

/-- ITS FALSE NEIGHBOUR: 'it returns false'. Refute it at one input. -/
def schemaChecksWrong : ChangeSpec := { name := "schemaChecks", fn := fun _ => fun
  | [d1, d2] => { results := [.lit (.bool false)], args := [d1, d2] }
  | _ => none }
def SchemaChecksWrongFalsely : Prop := schemaChecksRow.holds Tryd.pinned (OpenSpec.ofChange schemaChecksWrong)

/-- 'proctorlaw07.SchemaSame': WHATEVER THE INPUT: true; the input reads as it did. -/
def schemaSameSpec : ChangeSpec := { name := "schemaSame", fn := fun _ => fun
  | [d1, d2] => { results := [.lit (.bool true)], args := [d1, d2] }
  | _ => none }
def schemaSameRow : OpenClaim := { program := "ytcngoammgmcbfaadoor", sum := "9cb4cb3cdad9205e15aaf47153bfebf8239790f8de468c2d94c405fe582763c6", func := "proctor/proctorlaw07.SchemaSame", spec := "schemaSame", inPlace := ["internal/abi.NoEscape", "internal/bytealg.MakeNoZero"], unfollowed := true, recurses := true, named := ["proctor/schema.words"], apart := false, laid := [("proctor/schema.words", laid_proctor_schema_words)] }
def SchemaSameSaid : Prop := schemaSameRow.holds Tryd.pinned (OpenSpec.ofChange schemaSameSpec)

/-- ITS FALSE NEIGHBOUR: 'it returns false'. Refute it at one input. -/
def schemaSameWrong : ChangeSpec := { name := "schemaSame", fn := fun _ => fun
  | [d1, d2] => { results := [.lit (.bool false)], args := [d1, d2] }
  | _ => none }
def SchemaSameWrongFalsely : Prop := schemaSameRow.holds Tryd.pinned (OpenSpec.ofChange schemaSameWrong)

/-- 'proctorlaw01.NumDivides': WHATEVER THE INPUT: true; the input reads as it did. -/
def numDividesSpec : ChangeSpec := { name := "numDivides", fn := fun _ => fun
  | [d1, d2] => { results := [.lit (.bool true)], args := [d1, d2] }
  | _ => none }
def numDividesRow : OpenClaim := { program := "ytcngoammgmcbfaadoor", sum := "9cb4cb3cdad9205e15aaf47153bfebf8239790f8de468c2d94c405fe582763c6", func := "proctor/proctorlaw01.NumDivides", spec := "numDivides", named := ["internal/strconv.uint64pow10", "math/bits.deBruijn32tab", "math/bits.deBruijn64tab"], apart := false, laid := [("math/bits.deBruijn32tab", laid_math_bits_deBruijn32tab), ("math/bits.deBruijn64tab", laid_math_bits_deBruijn64tab), ("internal/strconv.uint64pow10", laid_internal_strconv_uint64pow10)] }
def NumDividesSaid : Prop := numDividesRow.holds Tryd.pinned (OpenSpec.ofChange numDividesSpec)

/-- ITS FALSE NEIGHBOUR: 'it returns false'. Refute it at one input. -/
def numDividesWrong : ChangeSpec := { name := "numDivides", fn := fun _ => fun
  | [d1, d2] => { results := [.lit (.bool false)], args := [d1, d2] }
  | _ => none }
def NumDividesWrongFalsely : Prop := numDividesRow.holds Tryd.pinned (OpenSpec.ofChange numDividesWrong)

/-- 'proctorlaw01.NumSums': WHATEVER THE INPUT: true; the input reads as it did. -/
def numSumsSpec : ChangeSpec := { name := "numSums", fn := fun _ => fun
  | [d] => { results := [.lit (.bool true)], args := [d] }
  | _ => none }
def numSumsRow : OpenClaim := { program := "ytcngoammgmcbfaadoor", sum := "9cb4cb3cdad9205e15aaf47153bfebf8239790f8de468c2d94c405fe582763c6", func := "proctor/proctorlaw01.NumSums", spec := "numSums", named := ["internal/strconv.uint64pow10", "math/bits.deBruijn32tab", "math/bits.deBruijn64tab"], apart := false, laid := [("math/bits.deBruijn32tab", laid_math_bits_deBruijn32tab), ("math/bits.deBruijn64tab", laid_math_bits_deBruijn64tab), ("internal/strconv.uint64pow10", laid_internal_strconv_uint64pow10)] }
def NumSumsSaid : Prop := numSumsRow.holds Tryd.pinned (OpenSpec.ofChange numSumsSpec)

/-- ITS FALSE NEIGHBOUR: 'it returns false'. Refute it at one input. -/
def numSumsWrong : ChangeSpec := { name := "numSums", fn := fun _ => fun
  | [d] => { results := [.lit (.bool false)], args := [d] }
  | _ => none }
def NumSumsWrongFalsely : Prop := numSumsRow.holds Tryd.pinned (OpenSpec.ofChange numSumsWrong)

/-- 'proctorlaw32.VerdictNames': WHATEVER THE INPUT: true; the input reads as it did. -/
def verdictNamesSpec : ChangeSpec := { name := "verdictNames", fn := fun _ => fun
  | [d1, d2, d3] => { results := [.lit (.bool true)], args := [d1, d2, d3] }
  | _ => none }
def verdictNamesRow : OpenClaim := { program := "ytcngoammgmcbfaadoor", sum := "9cb4cb3cdad9205e15aaf47153bfebf8239790f8de468c2d94c405fe582763c6", func := "proctor/proctorlaw32.VerdictNames", spec := "verdictNames", inPlace := ["internal/abi.NoEscape"], named := ["proctor/verdict.names", "internal/strconv.uint64pow10", "math/bits.deBruijn32tab", "math/bits.deBruijn64tab"], apart := false, laid := [("math/bits.deBruijn32tab", laid_math_bits_deBruijn32tab), ("math/bits.deBruijn64tab", laid_math_bits_deBruijn64tab), ("internal/strconv.uint64pow10", laid_internal_strconv_uint64pow10), ("proctor/verdict.names", laid_proctor_verdict_names)] }
def VerdictNamesSaid : Prop := verdictNamesRow.holds Tryd.pinned (OpenSpec.ofChange verdictNamesSpec)

/-- ITS FALSE NEIGHBOUR: 'it returns false'. Refute it at one input. -/
def verdictNamesWrong : ChangeSpec := { name := "verdictNames", fn := fun _ => fun
  | [d1, d2, d3] => { results := [.lit (.bool false)], args := [d1, d2, d3] }
  | _ => none }
def VerdictNamesWrongFalsely : Prop := verdictNamesRow.holds Tryd.pinned (OpenSpec.ofChange verdictNamesWrong)

/-- 'proctorlaw01.NumAdds': WHATEVER THE INPUT: true; the input reads as it did. -/
def numAddsSpec : ChangeSpec := { name := "numAdds", fn := fun _ => fun
  | [d1, d2] => { results := [.lit (.bool true)], args := [d1, d2] }
  | _ => none }
def numAddsRow : OpenClaim := { program := "ytcngoammgmcbfaadoor", sum := "9cb4cb3cdad9205e15aaf47153bfebf8239790f8de468c2d94c405fe582763c6", func := "proctor/proctorlaw01.NumAdds", spec := "numAdds", named := ["internal/strconv.uint64pow10", "math/bits.deBruijn32tab", "math/bits.deBruijn64tab"], apart := false, laid := [("math/bits.deBruijn32tab", laid_math_bits_deBruijn32tab), ("math/bits.deBruijn64tab", laid_math_bits_deBruijn64tab), ("internal/strconv.uint64pow10", laid_internal_strconv_uint64pow10)] }
def NumAddsSaid : Prop := numAddsRow.holds Tryd.pinned (OpenSpec.ofChange numAddsSpec)

/-- ITS FALSE NEIGHBOUR: 'it returns false'. Refute it at one input. -/
def numAddsWrong : ChangeSpec := { name := "numAdds", fn := fun _ => fun
  | [d1, d2] => { results := [.lit (.bool false)], args := [d1, d2] }
  | _ => none }
def NumAddsWrongFalsely : Prop := numAddsRow.holds Tryd.pinned (OpenSpec.ofChange numAddsWrong)

/-- 'proctorlaw01.NumOps': WHATEVER THE INPUT: true; the input reads as it did. -/
def numOpsSpec : ChangeSpec := { name := "numOps", fn := fun _ => fun
  | [d1, d2, d3] => { results := [.lit (.bool true)], args := [d1, d2, d3] }
  | _ => none }
def numOpsRow : OpenClaim := { program := "ytcngoammgmcbfaadoor", sum := "9cb4cb3cdad9205e15aaf47153bfebf8239790f8de468c2d94c405fe582763c6", func := "proctor/proctorlaw01.NumOps", spec := "numOps", named := ["internal/strconv.uint64pow10", "math/bits.deBruijn32tab", "math/bits.deBruijn64tab"], apart := false, laid := [("math/bits.deBruijn32tab", laid_math_bits_deBruijn32tab), ("math/bits.deBruijn64tab", laid_math_bits_deBruijn64tab), ("internal/strconv.uint64pow10", laid_internal_strconv_uint64pow10)] }
def NumOpsSaid : Prop := numOpsRow.holds Tryd.pinned (OpenSpec.ofChange numOpsSpec)

/-- ITS FALSE NEIGHBOUR: 'it returns false'. Refute it at one input. -/
def numOpsWrong : ChangeSpec := { name := "numOps", fn := fun _ => fun
  | [d1, d2, d3] => { results := [.lit (.bool false)], args := [d1, d2, d3] }
  | _ => none }
def NumOpsWrongFalsely : Prop := numOpsRow.holds Tryd.pinned (OpenSpec.ofChange numOpsWrong)

/- THE SECOND FORM. 'bulk': how many values and letters a reading holds, each counted each time it is reached (what is shared counts as often as it is met; a slice's spare places count too). A statement '..UptoSaid' is the law's where the arguments, and the package variables that the reading takes, are together of bulk at most 1048576: NARROWER than '..Said'. Prove '..Said' where nothing that the law and all that it calls make is longer than what came in: it says more and counts as full. Else prove '..UptoSaid'. A law counts once. -/
mutual
def uptoBulk {H : Type} : DataW H → Nat
  | .lit (.string bytes) => bytes.length + 1
  | .lit _ => 1
  | .nil => 1
  | .ptr d => uptoBulk d + 1
  | .slice elems spare => uptoBulkAll elems + uptoBulkAll spare + 1
  | .agg parts => uptoBulkAll parts + 1
  | .iface _ d => uptoBulk d + 1
  | .map entries => uptoBulkEntries entries + 1
  | .held _ => 1
def uptoBulkAll {H : Type} : List (DataW H) → Nat
  | [] => 0
  | d :: r => uptoBulk d + uptoBulkAll r
def uptoBulkEntries {H : Type} : List (Lit × DataW H) → Nat
  | [] => 0
  | x :: r => uptoBulkEntry x + uptoBulkEntries r
def uptoBulkEntry {H : Type} : Lit × DataW H → Nat
  | (.string bytes, d) => bytes.length + uptoBulk d + 1
  | (_, d) => uptoBulk d + 1
 end
def uptoSmall : (H : Type) → List (DataW H) → Bool := fun _ ds => decide (uptoBulkAll ds ≤ 1048576)
def OpenSpec.upto (s : _root_.Go.ChangeSpec) : _root_.Go.OpenSpec := { _root_.Go.OpenSpec.ofChange s with cond := some uptoSmall }

/-- 'proctorlaw10.TreeSame', WHERE WHAT IT READS IS OF BULK AT MOST 1048576: true; the input reads as it did. -/
def treeSameUptoRow : OpenClaim := { program := "ytcngoammgmcbfaadoor", sum := "9cb4cb3cdad9205e15aaf47153bfebf8239790f8de468c2d94c405fe582763c6", func := "proctor/proctorlaw10.TreeSame", spec := "treeSame", unfollowed := true, recurses := true, named := ["proctor/schema.words"], apart := false, laid := [("proctor/schema.words", laid_proctor_schema_words)], narrowed := true }
def TreeSameUptoSaid : Prop := treeSameUptoRow.holds Tryd.pinned (OpenSpec.upto treeSameSpec)

/-- 'proctorlaw07.SchemaNames', WHERE WHAT IT READS IS OF BULK AT MOST 1048576: true; the input reads as it did. -/
def schemaNamesUptoRow : OpenClaim := { program := "ytcngoammgmcbfaadoor", sum := "9cb4cb3cdad9205e15aaf47153bfebf8239790f8de468c2d94c405fe582763c6", func := "proctor/proctorlaw07.SchemaNames", spec := "schemaNames", inPlace := ["internal/abi.NoEscape", "internal/bytealg.MakeNoZero"], unfollowed := true, recurses := true, named := ["proctor/schema.words"], apart := false, laid := [("proctor/schema.words", laid_proctor_schema_words)], narrowed := true }
def SchemaNamesUptoSaid : Prop := schemaNamesUptoRow.holds Tryd.pinned (OpenSpec.upto schemaNamesSpec)

/-- 'proctorlaw07.SchemaChecks', WHERE WHAT IT READS IS OF BULK AT MOST 1048576: true; the input reads as it did. -/
def schemaChecksUptoRow : OpenClaim := { program := "ytcngoammgmcbfaadoor", sum := "9cb4cb3cdad9205e15aaf47153bfebf8239790f8de468c2d94c405fe582763c6", func := "proctor/proctorlaw07.SchemaChecks", spec := "schemaChecks", inPlace := ["internal/abi.NoEscape", "internal/bytealg.MakeNoZero"], unfollowed := true, recurses := true, named := ["proctor/schema.words"], apart := false, laid := [("proctor/schema.words", laid_proctor_schema_words)], narrowed := true }
def SchemaChecksUptoSaid : Prop := schemaChecksUptoRow.holds Tryd.pinned (OpenSpec.upto schemaChecksSpec)

/-- 'proctorlaw07.SchemaSame', WHERE WHAT IT READS IS OF BULK AT MOST 1048576: true; the input reads as it did. -/
def schemaSameUptoRow : OpenClaim := { program := "ytcngoammgmcbfaadoor", sum := "9cb4cb3cdad9205e15aaf47153bfebf8239790f8de468c2d94c405fe582763c6", func := "proctor/proctorlaw07.SchemaSame", spec := "schemaSame", inPlace := ["internal/abi.NoEscape", "internal/bytealg.MakeNoZero"], unfollowed := true, recurses := true, named := ["proctor/schema.words"], apart := false, laid := [("proctor/schema.words", laid_proctor_schema_words)], narrowed := true }
def SchemaSameUptoSaid : Prop := schemaSameUptoRow.holds Tryd.pinned (OpenSpec.upto schemaSameSpec)

/-- 'proctorlaw01.NumDivides', WHERE WHAT IT READS IS OF BULK AT MOST 1048576: true; the input reads as it did. -/
def numDividesUptoRow : OpenClaim := { program := "ytcngoammgmcbfaadoor", sum := "9cb4cb3cdad9205e15aaf47153bfebf8239790f8de468c2d94c405fe582763c6", func := "proctor/proctorlaw01.NumDivides", spec := "numDivides", named := ["internal/strconv.uint64pow10", "math/bits.deBruijn32tab", "math/bits.deBruijn64tab"], apart := false, laid := [("math/bits.deBruijn32tab", laid_math_bits_deBruijn32tab), ("math/bits.deBruijn64tab", laid_math_bits_deBruijn64tab), ("internal/strconv.uint64pow10", laid_internal_strconv_uint64pow10)], narrowed := true }
def NumDividesUptoSaid : Prop := numDividesUptoRow.holds Tryd.pinned (OpenSpec.upto numDividesSpec)

/-- 'proctorlaw01.NumSums', WHERE WHAT IT READS IS OF BULK AT MOST 1048576: true; the input reads as it did. -/
def numSumsUptoRow : OpenClaim := { program := "ytcngoammgmcbfaadoor", sum := "9cb4cb3cdad9205e15aaf47153bfebf8239790f8de468c2d94c405fe582763c6", func := "proctor/proctorlaw01.NumSums", spec := "numSums", named := ["internal/strconv.uint64pow10", "math/bits.deBruijn32tab", "math/bits.deBruijn64tab"], apart := false, laid := [("math/bits.deBruijn32tab", laid_math_bits_deBruijn32tab), ("math/bits.deBruijn64tab", laid_math_bits_deBruijn64tab), ("internal/strconv.uint64pow10", laid_internal_strconv_uint64pow10)], narrowed := true }
def NumSumsUptoSaid : Prop := numSumsUptoRow.holds Tryd.pinned (OpenSpec.upto numSumsSpec)

/-- 'proctorlaw32.VerdictNames', WHERE WHAT IT READS IS OF BULK AT MOST 1048576: true; the input reads as it did. -/
def verdictNamesUptoRow : OpenClaim := { program := "ytcngoammgmcbfaadoor", sum := "9cb4cb3cdad9205e15aaf47153bfebf8239790f8de468c2d94c405fe582763c6", func := "proctor/proctorlaw32.VerdictNames", spec := "verdictNames", inPlace := ["internal/abi.NoEscape"], named := ["proctor/verdict.names", "internal/strconv.uint64pow10", "math/bits.deBruijn32tab", "math/bits.deBruijn64tab"], apart := false, laid := [("math/bits.deBruijn32tab", laid_math_bits_deBruijn32tab), ("math/bits.deBruijn64tab", laid_math_bits_deBruijn64tab), ("internal/strconv.uint64pow10", laid_internal_strconv_uint64pow10), ("proctor/verdict.names", laid_proctor_verdict_names)], narrowed := true }
def VerdictNamesUptoSaid : Prop := verdictNamesUptoRow.holds Tryd.pinned (OpenSpec.upto verdictNamesSpec)

/-- 'proctorlaw01.NumAdds', WHERE WHAT IT READS IS OF BULK AT MOST 1048576: true; the input reads as it did. -/
def numAddsUptoRow : OpenClaim := { program := "ytcngoammgmcbfaadoor", sum := "9cb4cb3cdad9205e15aaf47153bfebf8239790f8de468c2d94c405fe582763c6", func := "proctor/proctorlaw01.NumAdds", spec := "numAdds", named := ["internal/strconv.uint64pow10", "math/bits.deBruijn32tab", "math/bits.deBruijn64tab"], apart := false, laid := [("math/bits.deBruijn32tab", laid_math_bits_deBruijn32tab), ("math/bits.deBruijn64tab", laid_math_bits_deBruijn64tab), ("internal/strconv.uint64pow10", laid_internal_strconv_uint64pow10)], narrowed := true }
def NumAddsUptoSaid : Prop := numAddsUptoRow.holds Tryd.pinned (OpenSpec.upto numAddsSpec)

/-- 'proctorlaw01.NumOps', WHERE WHAT IT READS IS OF BULK AT MOST 1048576: true; the input reads as it did. -/
def numOpsUptoRow : OpenClaim := { program := "ytcngoammgmcbfaadoor", sum := "9cb4cb3cdad9205e15aaf47153bfebf8239790f8de468c2d94c405fe582763c6", func := "proctor/proctorlaw01.NumOps", spec := "numOps", named := ["internal/strconv.uint64pow10", "math/bits.deBruijn32tab", "math/bits.deBruijn64tab"], apart := false, laid := [("math/bits.deBruijn32tab", laid_math_bits_deBruijn32tab), ("math/bits.deBruijn64tab", laid_math_bits_deBruijn64tab), ("internal/strconv.uint64pow10", laid_internal_strconv_uint64pow10)], narrowed := true }
def NumOpsUptoSaid : Prop := numOpsUptoRow.holds Tryd.pinned (OpenSpec.upto numOpsSpec)

end Rows
end Go.Proofs.YtcngoammgmcbfaaDoor
