/-
  NARROWER THAN 'FOR EVERY INPUT', by the rows' own cells (each row's printed sentence says how): ItemsSealSpec: laid · ItemsOpenSpec: laid · ItemsEncodeSpec: laid · ItemsOpens: laid · ItemsLengths: laid · ItemsSigned: laid · ItemsKey: laid · ItemsBack: laid · ItemsTurned: laid.
  DERIVED. THE GIVEN ROWS OF THIS SEAT. 9 by the template 'for every input the law returns true; each argument reads behind the call as it read before'; 0 by the template 'total and deterministic' (their statements: YtejdjnkilikehaaGreatDoorTotals.lean).
  GIVEN WITH THE SEED: the statements are not yours to turn. If you find one false, say at which input.
  Laid BY PROGRAM, IN A SANDBOX (cutbox-rows.mjs): the forced cells as the released guide's own fill.sh prints them over the translation b5402f9e42f1d2dc… (all of the seat's roots in one cut). By AI agents, Wed Nov 11 2026. No macro, syntax, notation, axiom, sorry.
-/
import Derived.Test.YtejdjnkilikehaaGreatDoorChecked
import GoSem.Claim
import GoSem.ClaimJoined
import GoSem.ClaimMapViews
import Derived.JoinedTies
import Derived.KernelRfl
namespace Go.Proofs.YtejdjnkilikehaaGreatDoor
/- THE CELL 'sum', in the pinned program and in every row, IS THE sha256 OF THE DUMP (.gsa) THAT YtejdjnkilikehaaGreatDoorProg.lean LOADS. Nothing in Lean hashes anything: it is a label: what it is worth is what the hold of that sum in a sandbox is worth. -/
noncomputable def Tryz.pinned : Pinned := { name := "ytejdjnkilikehaagreatdoor", sum := "b5402f9e42f1d2dc32604999de70209c0d8aee3efd68f1cd406348dfdc58287f", checked := Tryz.checked }
namespace Rows
def none {H : Type} : Left H := { results := [], args := [] }

/- WHAT THE LISTED PACKAGE-LEVEL VARIABLES READ AS WHEN THE CALL BEGINS. Each datum BY PROGRAM (the guide's laid-datum.mjs) off the statement by which the dump's own 'gosem.cut.vars' lays the variable. In a bare row this is a premise. The card (YtejdjnkilikehaaGreatDoorCards.lean) ties it to the program's text. -/
def laid_chartroom_digest_start {H : Type} : DataW H := .agg [.lit (.int .u32 1779033703), .lit (.int .u32 3144134277), .lit (.int .u32 1013904242), .lit (.int .u32 2773480762), .lit (.int .u32 1359893119), .lit (.int .u32 2600822924), .lit (.int .u32 528734635), .lit (.int .u32 1541459225)]
def laid_chartroom_digest_numbers {H : Type} : DataW H := .agg [.lit (.int .u32 1116352408), .lit (.int .u32 1899447441), .lit (.int .u32 3049323471), .lit (.int .u32 3921009573), .lit (.int .u32 961987163), .lit (.int .u32 1508970993), .lit (.int .u32 2453635748), .lit (.int .u32 2870763221), .lit (.int .u32 3624381080), .lit (.int .u32 310598401), .lit (.int .u32 607225278), .lit (.int .u32 1426881987), .lit (.int .u32 1925078388), .lit (.int .u32 2162078206), .lit (.int .u32 2614888103), .lit (.int .u32 3248222580), .lit (.int .u32 3835390401), .lit (.int .u32 4022224774), .lit (.int .u32 264347078), .lit (.int .u32 604807628), .lit (.int .u32 770255983), .lit (.int .u32 1249150122), .lit (.int .u32 1555081692), .lit (.int .u32 1996064986), .lit (.int .u32 2554220882), .lit (.int .u32 2821834349), .lit (.int .u32 2952996808), .lit (.int .u32 3210313671), .lit (.int .u32 3336571891), .lit (.int .u32 3584528711), .lit (.int .u32 113926993), .lit (.int .u32 338241895), .lit (.int .u32 666307205), .lit (.int .u32 773529912), .lit (.int .u32 1294757372), .lit (.int .u32 1396182291), .lit (.int .u32 1695183700), .lit (.int .u32 1986661051), .lit (.int .u32 2177026350), .lit (.int .u32 2456956037), .lit (.int .u32 2730485921), .lit (.int .u32 2820302411), .lit (.int .u32 3259730800), .lit (.int .u32 3345764771), .lit (.int .u32 3516065817), .lit (.int .u32 3600352804), .lit (.int .u32 4094571909), .lit (.int .u32 275423344), .lit (.int .u32 430227734), .lit (.int .u32 506948616), .lit (.int .u32 659060556), .lit (.int .u32 883997877), .lit (.int .u32 958139571), .lit (.int .u32 1322822218), .lit (.int .u32 1537002063), .lit (.int .u32 1747873779), .lit (.int .u32 1955562222), .lit (.int .u32 2024104815), .lit (.int .u32 2227730452), .lit (.int .u32 2361852424), .lit (.int .u32 2428436474), .lit (.int .u32 2756734187), .lit (.int .u32 3204031479), .lit (.int .u32 3329325298)]
def laid_chartroom_padding_lengths {H : Type} : DataW H := .agg [.lit (.int .i64 64), .lit (.int .i64 256), .lit (.int .i64 1024), .lit (.int .i64 4096), .lit (.int .i64 16384), .lit (.int .i64 65536)]
def laid_bytes_ErrTooLarge {H : Type} : DataW H := .iface "*errors.errorString" (.ptr (.agg [.lit (.string [98, 121, 116, 101, 115, 46, 66, 117, 102, 102, 101, 114, 58, 32, 116, 111, 111, 32, 108, 97, 114, 103, 101])]))
def laid_chartroom_cipher_constants {H : Type} : DataW H := .agg [.lit (.int .u32 1634760805), .lit (.int .u32 857760878), .lit (.int .u32 2036477234), .lit (.int .u32 1797285236)]

/-- 'chartroomlaw29.ItemsSealSpec': WHATEVER THE INPUT: true; the input reads as it did. -/
def itemsSealSpecSpec : ChangeSpec := { name := "itemsSealSpec", fn := fun _ => fun
  | [d] => { results := [.lit (.bool true)], args := [d] }
  | _ => none }
def itemsSealSpecRow : OpenClaim := { program := "ytejdjnkilikehaagreatdoor", sum := "b5402f9e42f1d2dc32604999de70209c0d8aee3efd68f1cd406348dfdc58287f", func := "chartroom/chartroomlaw29.ItemsSealSpec", spec := "itemsSealSpec", unfollowed := true, recurses := true, named := ["math/bits.divideError", "math/bits.overflowError", "chartroom/padding.lengths", "bytes.ErrTooLarge", "chartroom/digest.start", "chartroom/digest.numbers", "chartroom/cipher.constants"], apart := false, laid := [("chartroom/digest.start", laid_chartroom_digest_start), ("chartroom/digest.numbers", laid_chartroom_digest_numbers), ("chartroom/padding.lengths", laid_chartroom_padding_lengths), ("bytes.ErrTooLarge", laid_bytes_ErrTooLarge), ("chartroom/cipher.constants", laid_chartroom_cipher_constants)] }
def ItemsSealSpecSaid : Prop := itemsSealSpecRow.holds Tryz.pinned (OpenSpec.ofChange itemsSealSpecSpec)

/-- ITS FALSE NEIGHBOUR: 'it returns false'. Refute it at one input. -/
def itemsSealSpecWrong : ChangeSpec := { name := "itemsSealSpec", fn := fun _ => fun
  | [d] => { results := [.lit (.bool false)], args := [d] }
  | _ => none }
def ItemsSealSpecWrongFalsely : Prop := itemsSealSpecRow.holds Tryz.pinned (OpenSpec.ofChange itemsSealSpecWrong)

/-- 'chartroomlaw29.ItemsOpenSpec': WHATEVER THE INPUT: true; the input reads as it did. -/
def itemsOpenSpecSpec : ChangeSpec := { name := "itemsOpenSpec", fn := fun _ => fun
  | [d1, d2, d3, d4, d5] => { results := [.lit (.bool true)], args := [d1, d2, d3, d4, d5] }
  | _ => none }
def itemsOpenSpecRow : OpenClaim := { program := "ytejdjnkilikehaagreatdoor", sum := "b5402f9e42f1d2dc32604999de70209c0d8aee3efd68f1cd406348dfdc58287f", func := "chartroom/chartroomlaw29.ItemsOpenSpec", spec := "itemsOpenSpec", unfollowed := true, recurses := true, named := ["math/bits.divideError", "math/bits.overflowError", "chartroom/padding.lengths", "bytes.ErrTooLarge", "chartroom/digest.start", "chartroom/digest.numbers", "chartroom/cipher.constants"], apart := false, laid := [("chartroom/digest.start", laid_chartroom_digest_start), ("chartroom/digest.numbers", laid_chartroom_digest_numbers), ("chartroom/padding.lengths", laid_chartroom_padding_lengths), ("bytes.ErrTooLarge", laid_bytes_ErrTooLarge), ("chartroom/cipher.constants", laid_chartroom_cipher_constants)] }
def ItemsOpenSpecSaid : Prop := itemsOpenSpecRow.holds Tryz.pinned (OpenSpec.ofChange itemsOpenSpecSpec)

/-- ITS FALSE NEIGHBOUR: 'it returns false'. Refute it at one input. -/
def itemsOpenSpecWrong : ChangeSpec := { name := "itemsOpenSpec", fn := fun _ => fun
  | [d1, d2, d3, d4, d5] => { results := [.lit (.bool false)], args := [d1, d2, d3, d4, d5] }
  | _ => none }
def ItemsOpenSpecWrongFalsely : Prop := itemsOpenSpecRow.holds Tryz.pinned (OpenSpec.ofChange itemsOpenSpecWrong)

/-- 'chartroomlaw29.ItemsEncodeSpec': WHATEVER THE INPUT: true; the input reads as it did. -/
def itemsEncodeSpecSpec : ChangeSpec := { name := "itemsEncodeSpec", fn := fun _ => fun
  | [d1, d2] => { results := [.lit (.bool true)], args := [d1, d2] }
  | _ => none }
def itemsEncodeSpecRow : OpenClaim := { program := "ytejdjnkilikehaagreatdoor", sum := "b5402f9e42f1d2dc32604999de70209c0d8aee3efd68f1cd406348dfdc58287f", func := "chartroom/chartroomlaw29.ItemsEncodeSpec", spec := "itemsEncodeSpec", unfollowed := true, recurses := true, named := ["math/bits.divideError", "math/bits.overflowError", "chartroom/padding.lengths", "bytes.ErrTooLarge", "chartroom/digest.start", "chartroom/digest.numbers", "chartroom/cipher.constants"], apart := false, laid := [("chartroom/digest.start", laid_chartroom_digest_start), ("chartroom/digest.numbers", laid_chartroom_digest_numbers), ("chartroom/padding.lengths", laid_chartroom_padding_lengths), ("bytes.ErrTooLarge", laid_bytes_ErrTooLarge), ("chartroom/cipher.constants", laid_chartroom_cipher_constants)] }
def ItemsEncodeSpecSaid : Prop := itemsEncodeSpecRow.holds Tryz.pinned (OpenSpec.ofChange itemsEncodeSpecSpec)

/-- ITS FALSE NEIGHBOUR: 'it returns false'. Refute it at one input. -/
def itemsEncodeSpecWrong : ChangeSpec := { name := "itemsEncodeSpec", fn := fun _ => fun
  | [d1, d2] => { results := [.lit (.bool false)], args := [d1, d2] }
  | _ => none }
def ItemsEncodeSpecWrongFalsely : Prop := itemsEncodeSpecRow.holds Tryz.pinned (OpenSpec.ofChange itemsEncodeSpecWrong)

/-- 'chartroomlaw29.ItemsOpens': WHATEVER THE INPUT: true; the input reads as it did. -/
def itemsOpensSpec : ChangeSpec := { name := "itemsOpens", fn := fun _ => fun
  | [d] => { results := [.lit (.bool true)], args := [d] }
  | _ => none }
def itemsOpensRow : OpenClaim := { program := "ytejdjnkilikehaagreatdoor", sum := "b5402f9e42f1d2dc32604999de70209c0d8aee3efd68f1cd406348dfdc58287f", func := "chartroom/chartroomlaw29.ItemsOpens", spec := "itemsOpens", unfollowed := true, recurses := true, named := ["math/bits.divideError", "math/bits.overflowError", "chartroom/padding.lengths", "bytes.ErrTooLarge", "chartroom/digest.start", "chartroom/digest.numbers", "chartroom/cipher.constants"], apart := false, laid := [("chartroom/digest.start", laid_chartroom_digest_start), ("chartroom/digest.numbers", laid_chartroom_digest_numbers), ("chartroom/padding.lengths", laid_chartroom_padding_lengths), ("bytes.ErrTooLarge", laid_bytes_ErrTooLarge), ("chartroom/cipher.constants", laid_chartroom_cipher_constants)] }
def ItemsOpensSaid : Prop := itemsOpensRow.holds Tryz.pinned (OpenSpec.ofChange itemsOpensSpec)

/-- ITS FALSE NEIGHBOUR: 'it returns false'. Refute it at one input. -/
def itemsOpensWrong : ChangeSpec := { name := "itemsOpens", fn := fun _ => fun
  | [d] => { results := [.lit (.bool false)], args := [d] }
  | _ => none }
def ItemsOpensWrongFalsely : Prop := itemsOpensRow.holds Tryz.pinned (OpenSpec.ofChange itemsOpensWrong)

/-- 'chartroomlaw29.ItemsLengths': WHATEVER THE INPUT: true; the input reads as it did. -/
def itemsLengthsSpec : ChangeSpec := { name := "itemsLengths", fn := fun _ => fun
  | [d1, d2] => { results := [.lit (.bool true)], args := [d1, d2] }
  | _ => none }
def itemsLengthsRow : OpenClaim := { program := "ytejdjnkilikehaagreatdoor", sum := "b5402f9e42f1d2dc32604999de70209c0d8aee3efd68f1cd406348dfdc58287f", func := "chartroom/chartroomlaw29.ItemsLengths", spec := "itemsLengths", unfollowed := true, recurses := true, named := ["math/bits.divideError", "math/bits.overflowError", "chartroom/padding.lengths", "bytes.ErrTooLarge", "chartroom/digest.start", "chartroom/digest.numbers", "chartroom/cipher.constants"], apart := false, laid := [("chartroom/digest.start", laid_chartroom_digest_start), ("chartroom/digest.numbers", laid_chartroom_digest_numbers), ("chartroom/padding.lengths", laid_chartroom_padding_lengths), ("bytes.ErrTooLarge", laid_bytes_ErrTooLarge), ("chartroom/cipher.constants", laid_chartroom_cipher_constants)] }
def ItemsLengthsSaid : Prop := itemsLengthsRow.holds Tryz.pinned (OpenSpec.ofChange itemsLengthsSpec)

/-- ITS FALSE NEIGHBOUR: 'it returns false'. Refute it at one input. -/
def itemsLengthsWrong : ChangeSpec := { name := "itemsLengths", fn := fun _ => fun
  | [d1, d2] => { results := [.lit (.bool false)], args := [d1, d2] }
  | _ => none }
def ItemsLengthsWrongFalsely : Prop := itemsLengthsRow.holds Tryz.pinned (OpenSpec.ofChange itemsLengthsWrong)

/-- 'chartroomlaw29.ItemsSigned': WHATEVER THE INPUT: true; the input reads as it did. -/
def itemsSignedSpec : ChangeSpec := { name := "itemsSigned", fn := fun _ => fun
  | [d1, d2] => { results := [.lit (.bool true)], args := [d1, d2] }
  | _ => none }
def itemsSignedRow : OpenClaim := { program := "ytejdjnkilikehaagreatdoor", sum := "b5402f9e42f1d2dc32604999de70209c0d8aee3efd68f1cd406348dfdc58287f", func := "chartroom/chartroomlaw29.ItemsSigned", spec := "itemsSigned", unfollowed := true, recurses := true, named := ["math/bits.divideError", "math/bits.overflowError", "chartroom/padding.lengths", "bytes.ErrTooLarge", "chartroom/digest.start", "chartroom/digest.numbers", "chartroom/cipher.constants"], apart := false, laid := [("chartroom/digest.start", laid_chartroom_digest_start), ("chartroom/digest.numbers", laid_chartroom_digest_numbers), ("chartroom/padding.lengths", laid_chartroom_padding_lengths), ("bytes.ErrTooLarge", laid_bytes_ErrTooLarge), ("chartroom/cipher.constants", laid_chartroom_cipher_constants)] }
def ItemsSignedSaid : Prop := itemsSignedRow.holds Tryz.pinned (OpenSpec.ofChange itemsSignedSpec)

/-- ITS FALSE NEIGHBOUR: 'it returns false'. Refute it at one input. -/
def itemsSignedWrong : ChangeSpec := { name := "itemsSigned", fn := fun _ => fun
  | [d1, d2] => { results := [.lit (.bool false)], args := [d1, d2] }
  | _ => none }
def ItemsSignedWrongFalsely : Prop := itemsSignedRow.holds Tryz.pinned (OpenSpec.ofChange itemsSignedWrong)

/-- 'chartroomlaw29.ItemsKey': WHATEVER THE INPUT: true; the input reads as it did. -/
def itemsKeySpec : ChangeSpec := { name := "itemsKey", fn := fun _ => fun
  | [d1, d2] => { results := [.lit (.bool true)], args := [d1, d2] }
  | _ => none }
def itemsKeyRow : OpenClaim := { program := "ytejdjnkilikehaagreatdoor", sum := "b5402f9e42f1d2dc32604999de70209c0d8aee3efd68f1cd406348dfdc58287f", func := "chartroom/chartroomlaw29.ItemsKey", spec := "itemsKey", unfollowed := true, recurses := true, named := ["math/bits.divideError", "math/bits.overflowError", "chartroom/padding.lengths", "bytes.ErrTooLarge", "chartroom/digest.start", "chartroom/digest.numbers", "chartroom/cipher.constants"], apart := false, laid := [("chartroom/digest.start", laid_chartroom_digest_start), ("chartroom/digest.numbers", laid_chartroom_digest_numbers), ("chartroom/padding.lengths", laid_chartroom_padding_lengths), ("bytes.ErrTooLarge", laid_bytes_ErrTooLarge), ("chartroom/cipher.constants", laid_chartroom_cipher_constants)] }
def ItemsKeySaid : Prop := itemsKeyRow.holds Tryz.pinned (OpenSpec.ofChange itemsKeySpec)

/-- ITS FALSE NEIGHBOUR: 'it returns false'. Refute it at one input. -/
def itemsKeyWrong : ChangeSpec := { name := "itemsKey", fn := fun _ => fun
  | [d1, d2] => { results := [.lit (.bool false)], args := [d1, d2] }
  | _ => none }
def ItemsKeyWrongFalsely : Prop := itemsKeyRow.holds Tryz.pinned (OpenSpec.ofChange itemsKeyWrong)

/-- 'chartroomlaw29.ItemsBack': WHATEVER THE INPUT: true; the input reads as it did. -/
def itemsBackSpec : ChangeSpec := { name := "itemsBack", fn := fun _ => fun
  | [d1, d2] => { results := [.lit (.bool true)], args := [d1, d2] }
  | _ => none }
def itemsBackRow : OpenClaim := { program := "ytejdjnkilikehaagreatdoor", sum := "b5402f9e42f1d2dc32604999de70209c0d8aee3efd68f1cd406348dfdc58287f", func := "chartroom/chartroomlaw29.ItemsBack", spec := "itemsBack", unfollowed := true, recurses := true, named := ["math/bits.divideError", "math/bits.overflowError", "chartroom/padding.lengths", "bytes.ErrTooLarge", "chartroom/digest.start", "chartroom/digest.numbers", "chartroom/cipher.constants"], apart := false, laid := [("chartroom/digest.start", laid_chartroom_digest_start), ("chartroom/digest.numbers", laid_chartroom_digest_numbers), ("chartroom/padding.lengths", laid_chartroom_padding_lengths), ("bytes.ErrTooLarge", laid_bytes_ErrTooLarge), ("chartroom/cipher.constants", laid_chartroom_cipher_constants)] }
def ItemsBackSaid : Prop := itemsBackRow.holds Tryz.pinned (OpenSpec.ofChange itemsBackSpec)

/-- ITS FALSE NEIGHBOUR: 'it returns false'. Refute it at one input. -/
def itemsBackWrong : ChangeSpec := { name := "itemsBack", fn := fun _ => fun
  | [d1, d2] => { results := [.lit (.bool false)], args := [d1, d2] }
  | _ => none }
def ItemsBackWrongFalsely : Prop := itemsBackRow.holds Tryz.pinned (OpenSpec.ofChange itemsBackWrong)

/-- 'chartroomlaw29.ItemsTurned': WHATEVER THE INPUT: true; the input reads as it did. -/
def itemsTurnedSpec : ChangeSpec := { name := "itemsTurned", fn := fun _ => fun
  | [d1, d2] => { results := [.lit (.bool true)], args := [d1, d2] }
  | _ => none }
def itemsTurnedRow : OpenClaim := { program := "ytejdjnkilikehaagreatdoor", sum := "b5402f9e42f1d2dc32604999de70209c0d8aee3efd68f1cd406348dfdc58287f", func := "chartroom/chartroomlaw29.ItemsTurned", spec := "itemsTurned", unfollowed := true, recurses := true, named := ["math/bits.divideError", "math/bits.overflowError", "chartroom/padding.lengths", "bytes.ErrTooLarge", "chartroom/digest.start", "chartroom/digest.numbers", "chartroom/cipher.constants"], apart := false, laid := [("chartroom/digest.start", laid_chartroom_digest_start), ("chartroom/digest.numbers", laid_chartroom_digest_numbers), ("chartroom/padding.lengths", laid_chartroom_padding_lengths), ("bytes.ErrTooLarge", laid_bytes_ErrTooLarge), ("chartroom/cipher.constants", laid_chartroom_cipher_constants)] }
def ItemsTurnedSaid : Prop := itemsTurnedRow.holds Tryz.pinned (OpenSpec.ofChange itemsTurnedSpec)

/-- ITS FALSE NEIGHBOUR: 'it returns false'. Refute it at one input. -/
def itemsTurnedWrong : ChangeSpec := { name := "itemsTurned", fn := fun _ => fun
  | [d1, d2] => { results := [.lit (.bool false)], args := [d1, d2] }
  | _ => none }
def ItemsTurnedWrongFalsely : Prop := itemsTurnedRow.holds Tryz.pinned (OpenSpec.ofChange itemsTurnedWrong)

/- THE SECOND FORM. 'bulk': how many values and letters a reading holds, each counted each time it is reached (what is shared counts as often as it is met; a slice's spare places count too). A statement '..UptoSaid' is the law's where the arguments, and the package variables that the reading takes, are together of bulk at most 1048576: NARROWER than '..Said'. Prove '..Said' where nothing that the law and all that it calls make is longer than what came in: it says more and counts as full. Else prove '..UptoSaid'. A law counts once. -/
mutual
def uptoBulk {H : Type} : DataW H → Nat
  | .lit (.string bytes) => bytes.length + 1
  | .lit _ => 1
  | .nil => 1
  | .ptr d => uptoBulk d + 1
  | .slice elems spare => uptoBulkAll elems + uptoBulkAll spare + 1
  | .agg parts => uptoBulkAll parts + 1
  | .iface _ d => uptoBulk d + 1
  | .map entries => uptoBulkEntries entries + 1
  | .held _ => 1
def uptoBulkAll {H : Type} : List (DataW H) → Nat
  | [] => 0
  | d :: r => uptoBulk d + uptoBulkAll r
def uptoBulkEntries {H : Type} : List (Lit × DataW H) → Nat
  | [] => 0
  | x :: r => uptoBulkEntry x + uptoBulkEntries r
def uptoBulkEntry {H : Type} : Lit × DataW H → Nat
  | (.string bytes, d) => bytes.length + uptoBulk d + 1
  | (_, d) => uptoBulk d + 1
 end
def uptoSmall : (H : Type) → List (DataW H) → Bool := fun _ ds => decide (uptoBulkAll ds ≤ 1048576)
def OpenSpec.upto (s : _root_.Go.ChangeSpec) : _root_.Go.OpenSpec := { _root_.Go.OpenSpec.ofChange s with cond := some uptoSmall }

/-- 'chartroomlaw29.ItemsSealSpec', WHERE WHAT IT READS IS OF BULK AT MOST 1048576: true; the input reads as it did. -/
def itemsSealSpecUptoRow : OpenClaim := { program := "ytejdjnkilikehaagreatdoor", sum := "b5402f9e42f1d2dc32604999de70209c0d8aee3efd68f1cd406348dfdc58287f", func := "chartroom/chartroomlaw29.ItemsSealSpec", spec := "itemsSealSpec", unfollowed := true, recurses := true, named := ["math/bits.divideError", "math/bits.overflowError", "chartroom/padding.lengths", "bytes.ErrTooLarge", "chartroom/digest.start", "chartroom/digest.numbers", "chartroom/cipher.constants"], apart := false, laid := [("chartroom/digest.start", laid_chartroom_digest_start), ("chartroom/digest.numbers", laid_chartroom_digest_numbers), ("chartroom/padding.lengths", laid_chartroom_padding_lengths), ("bytes.ErrTooLarge", laid_bytes_ErrTooLarge), ("chartroom/cipher.constants", laid_chartroom_cipher_constants)], narrowed := true }
def ItemsSealSpecUptoSaid : Prop := itemsSealSpecUptoRow.holds Tryz.pinned (OpenSpec.upto itemsSealSpecSpec)

/-- 'chartroomlaw29.ItemsOpenSpec', WHERE WHAT IT READS IS OF BULK AT MOST 1048576: true; the input reads as it did. -/
def itemsOpenSpecUptoRow : OpenClaim := { program := "ytejdjnkilikehaagreatdoor", sum := "b5402f9e42f1d2dc32604999de70209c0d8aee3efd68f1cd406348dfdc58287f", func := "chartroom/chartroomlaw29.ItemsOpenSpec", spec := "itemsOpenSpec", unfollowed := true, recurses := true, named := ["math/bits.divideError", "math/bits.overflowError", "chartroom/padding.lengths", "bytes.ErrTooLarge", "chartroom/digest.start", "chartroom/digest.numbers", "chartroom/cipher.constants"], apart := false, laid := [("chartroom/digest.start", laid_chartroom_digest_start), ("chartroom/digest.numbers", laid_chartroom_digest_numbers), ("chartroom/padding.lengths", laid_chartroom_padding_lengths), ("bytes.ErrTooLarge", laid_bytes_ErrTooLarge), ("chartroom/cipher.constants", laid_chartroom_cipher_constants)], narrowed := true }
def ItemsOpenSpecUptoSaid : Prop := itemsOpenSpecUptoRow.holds Tryz.pinned (OpenSpec.upto itemsOpenSpecSpec)

/-- 'chartroomlaw29.ItemsEncodeSpec', WHERE WHAT IT READS IS OF BULK AT MOST 1048576: true; the input reads as it did. -/
def itemsEncodeSpecUptoRow : OpenClaim := { program := "ytejdjnkilikehaagreatdoor", sum := "b5402f9e42f1d2dc32604999de70209c0d8aee3efd68f1cd406348dfdc58287f", func := "chartroom/chartroomlaw29.ItemsEncodeSpec", spec := "itemsEncodeSpec", unfollowed := true, recurses := true, named := ["math/bits.divideError", "math/bits.overflowError", "chartroom/padding.lengths", "bytes.ErrTooLarge", "chartroom/digest.start", "chartroom/digest.numbers", "chartroom/cipher.constants"], apart := false, laid := [("chartroom/digest.start", laid_chartroom_digest_start), ("chartroom/digest.numbers", laid_chartroom_digest_numbers), ("chartroom/padding.lengths", laid_chartroom_padding_lengths), ("bytes.ErrTooLarge", laid_bytes_ErrTooLarge), ("chartroom/cipher.constants", laid_chartroom_cipher_constants)], narrowed := true }
def ItemsEncodeSpecUptoSaid : Prop := itemsEncodeSpecUptoRow.holds Tryz.pinned (OpenSpec.upto itemsEncodeSpecSpec)

/-- 'chartroomlaw29.ItemsOpens', WHERE WHAT IT READS IS OF BULK AT MOST 1048576: true; the input reads as it did. -/
def itemsOpensUptoRow : OpenClaim := { program := "ytejdjnkilikehaagreatdoor", sum := "b5402f9e42f1d2dc32604999de70209c0d8aee3efd68f1cd406348dfdc58287f", func := "chartroom/chartroomlaw29.ItemsOpens", spec := "itemsOpens", unfollowed := true, recurses := true, named := ["math/bits.divideError", "math/bits.overflowError", "chartroom/padding.lengths", "bytes.ErrTooLarge", "chartroom/digest.start", "chartroom/digest.numbers", "chartroom/cipher.constants"], apart := false, laid := [("chartroom/digest.start", laid_chartroom_digest_start), ("chartroom/digest.numbers", laid_chartroom_digest_numbers), ("chartroom/padding.lengths", laid_chartroom_padding_lengths), ("bytes.ErrTooLarge", laid_bytes_ErrTooLarge), ("chartroom/cipher.constants", laid_chartroom_cipher_constants)], narrowed := true }
def ItemsOpensUptoSaid : Prop := itemsOpensUptoRow.holds Tryz.pinned (OpenSpec.upto itemsOpensSpec)

/-- 'chartroomlaw29.ItemsLengths', WHERE WHAT IT READS IS OF BULK AT MOST 1048576: true; the input reads as it did. -/
def itemsLengthsUptoRow : OpenClaim := { program := "ytejdjnkilikehaagreatdoor", sum := "b5402f9e42f1d2dc32604999de70209c0d8aee3efd68f1cd406348dfdc58287f", func := "chartroom/chartroomlaw29.ItemsLengths", spec := "itemsLengths", unfollowed := true, recurses := true, named := ["math/bits.divideError", "math/bits.overflowError", "chartroom/padding.lengths", "bytes.ErrTooLarge", "chartroom/digest.start", "chartroom/digest.numbers", "chartroom/cipher.constants"], apart := false, laid := [("chartroom/digest.start", laid_chartroom_digest_start), ("chartroom/digest.numbers", laid_chartroom_digest_numbers), ("chartroom/padding.lengths", laid_chartroom_padding_lengths), ("bytes.ErrTooLarge", laid_bytes_ErrTooLarge), ("chartroom/cipher.constants", laid_chartroom_cipher_constants)], narrowed := true }
def ItemsLengthsUptoSaid : Prop := itemsLengthsUptoRow.holds Tryz.pinned (OpenSpec.upto itemsLengthsSpec)

/-- 'chartroomlaw29.ItemsSigned', WHERE WHAT IT READS IS OF BULK AT MOST 1048576: true; the input reads as it did. -/
def itemsSignedUptoRow : OpenClaim := { program := "ytejdjnkilikehaagreatdoor", sum := "b5402f9e42f1d2dc32604999de70209c0d8aee3efd68f1cd406348dfdc58287f", func := "chartroom/chartroomlaw29.ItemsSigned", spec := "itemsSigned", unfollowed := true, recurses := true, named := ["math/bits.divideError", "math/bits.overflowError", "chartroom/padding.lengths", "bytes.ErrTooLarge", "chartroom/digest.start", "chartroom/digest.numbers", "chartroom/cipher.constants"], apart := false, laid := [("chartroom/digest.start", laid_chartroom_digest_start), ("chartroom/digest.numbers", laid_chartroom_digest_numbers), ("chartroom/padding.lengths", laid_chartroom_padding_lengths), ("bytes.ErrTooLarge", laid_bytes_ErrTooLarge), ("chartroom/cipher.constants", laid_chartroom_cipher_constants)], narrowed := true }
def ItemsSignedUptoSaid : Prop := itemsSignedUptoRow.holds Tryz.pinned (OpenSpec.upto itemsSignedSpec)

/-- 'chartroomlaw29.ItemsKey', WHERE WHAT IT READS IS OF BULK AT MOST 1048576: true; the input reads as it did. -/
def itemsKeyUptoRow : OpenClaim := { program := "ytejdjnkilikehaagreatdoor", sum := "b5402f9e42f1d2dc32604999de70209c0d8aee3efd68f1cd406348dfdc58287f", func := "chartroom/chartroomlaw29.ItemsKey", spec := "itemsKey", unfollowed := true, recurses := true, named := ["math/bits.divideError", "math/bits.overflowError", "chartroom/padding.lengths", "bytes.ErrTooLarge", "chartroom/digest.start", "chartroom/digest.numbers", "chartroom/cipher.constants"], apart := false, laid := [("chartroom/digest.start", laid_chartroom_digest_start), ("chartroom/digest.numbers", laid_chartroom_digest_numbers), ("chartroom/padding.lengths", laid_chartroom_padding_lengths), ("bytes.ErrTooLarge", laid_bytes_ErrTooLarge), ("chartroom/cipher.constants", laid_chartroom_cipher_constants)], narrowed := true }
def ItemsKeyUptoSaid : Prop := itemsKeyUptoRow.holds Tryz.pinned (OpenSpec.upto itemsKeySpec)

/-- 'chartroomlaw29.ItemsBack', WHERE WHAT IT READS IS OF BULK AT MOST 1048576: true; the input reads as it did. -/
def itemsBackUptoRow : OpenClaim := { program := "ytejdjnkilikehaagreatdoor", sum := "b5402f9e42f1d2dc32604999de70209c0d8aee3efd68f1cd406348dfdc58287f", func := "chartroom/chartroomlaw29.ItemsBack", spec := "itemsBack", unfollowed := true, recurses := true, named := ["math/bits.divideError", "math/bits.overflowError", "chartroom/padding.lengths", "bytes.ErrTooLarge", "chartroom/digest.start", "chartroom/digest.numbers", "chartroom/cipher.constants"], apart := false, laid := [("chartroom/digest.start", laid_chartroom_digest_start), ("chartroom/digest.numbers", laid_chartroom_digest_numbers), ("chartroom/padding.lengths", laid_chartroom_padding_lengths), ("bytes.ErrTooLarge", laid_bytes_ErrTooLarge), ("chartroom/cipher.constants", laid_chartroom_cipher_constants)], narrowed := true }
def ItemsBackUptoSaid : Prop := itemsBackUptoRow.holds Tryz.pinned (OpenSpec.upto itemsBackSpec)

/-- 'chartroomlaw29.ItemsTurned', WHERE WHAT IT READS IS OF BULK AT MOST 1048576: true; the input reads as it did. -/
def itemsTurnedUptoRow : OpenClaim := { program := "ytejdjnkilikehaagreatdoor", sum := "b5402f9e42f1d2dc32604999de70209c0d8aee3efd68f1cd406348dfdc58287f", func := "chartroom/chartroomlaw29.ItemsTurned", spec := "itemsTurned", unfollowed := true, recurses := true, named := ["math/bits.divideError", "math/bits.overflowError", "chartroom/padding.lengths", "bytes.ErrTooLarge", "chartroom/digest.start", "chartroom/digest.numbers", "chartroom/cipher.constants"], apart := false, laid := [("chartroom/digest.start", laid_chartroom_digest_start), ("chartroom/digest.numbers", laid_chartroom_digest_numbers), ("chartroom/padding.lengths", laid_chartroom_padding_lengths), ("bytes.ErrTooLarge", laid_bytes_ErrTooLarge), ("chartroom/cipher.constants", laid_chartroom_cipher_constants)], narrowed := true }
def ItemsTurnedUptoSaid : Prop := itemsTurnedUptoRow.holds Tryz.pinned (OpenSpec.upto itemsTurnedSpec)

end Rows
end Go.Proofs.YtejdjnkilikehaaGreatDoor
