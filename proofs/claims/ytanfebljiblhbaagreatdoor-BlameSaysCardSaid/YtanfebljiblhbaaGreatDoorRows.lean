/-
  NARROWER THAN 'FOR EVERY INPUT', by the rows' own cells (each row's printed sentence says how): BlameSays: laid · BlameHands: laid · RenderSays: laid · RenderClean: laid · RenderTurns: laid · BlameSums: laid.
  DERIVED. THE GIVEN ROWS OF THIS SEAT. 6 by the template 'for every input the law returns true; each argument reads behind the call as it read before'; 0 by the template 'total and deterministic' (their statements: YtanfebljiblhbaaGreatDoorTotals.lean).
  GIVEN WITH THE SEED: the statements are not yours to turn. If you find one false, say at which input.
  Laid BY PROGRAM, IN A SANDBOX (cutbox-rows.mjs): the forced cells as the released guide's own fill.sh prints them over the translation 035fd8487c234c30… (all of the seat's roots in one cut). By AI agents, Wed Nov 11 2026. No macro, syntax, notation, axiom, sorry.
-/
import Derived.Test.YtanfebljiblhbaaGreatDoorChecked
import GoSem.Claim
import GoSem.ClaimJoined
import GoSem.ClaimMapViews
import Derived.JoinedTies
import Derived.KernelRfl
namespace Go.Proofs.YtanfebljiblhbaaGreatDoor
/- THE CELL 'sum', in the pinned program and in every row, IS THE sha256 OF THE DUMP (.gsa) THAT YtanfebljiblhbaaGreatDoorProg.lean LOADS. Nothing in Lean hashes anything: it is a label: what it is worth is what the hold of that sum in a sandbox is worth. -/
noncomputable def Tryz.pinned : Pinned := { name := "ytanfebljiblhbaagreatdoor", sum := "035fd8487c234c3003783ce2958aba1041f076a313c180c731067e20dd184a10", checked := Tryz.checked }
namespace Rows
def none {H : Type} : Left H := { results := [], args := [] }

/- WHAT THE LISTED PACKAGE-LEVEL VARIABLES READ AS WHEN THE CALL BEGINS. Each datum BY PROGRAM (the guide's laid-datum.mjs) off the statement by which the dump's own 'gosem.cut.vars' lays the variable. In a bare row this is a premise. The card (YtanfebljiblhbaaGreatDoorCards.lean) ties it to the program's text. -/
def laid_math_bits_deBruijn32tab {H : Type} : DataW H := .agg [.lit (.int .u8 0), .lit (.int .u8 1), .lit (.int .u8 28), .lit (.int .u8 2), .lit (.int .u8 29), .lit (.int .u8 14), .lit (.int .u8 24), .lit (.int .u8 3), .lit (.int .u8 30), .lit (.int .u8 22), .lit (.int .u8 20), .lit (.int .u8 15), .lit (.int .u8 25), .lit (.int .u8 17), .lit (.int .u8 4), .lit (.int .u8 8), .lit (.int .u8 31), .lit (.int .u8 27), .lit (.int .u8 13), .lit (.int .u8 23), .lit (.int .u8 21), .lit (.int .u8 19), .lit (.int .u8 16), .lit (.int .u8 7), .lit (.int .u8 26), .lit (.int .u8 12), .lit (.int .u8 18), .lit (.int .u8 6), .lit (.int .u8 11), .lit (.int .u8 5), .lit (.int .u8 10), .lit (.int .u8 9)]
def laid_math_bits_deBruijn64tab {H : Type} : DataW H := .agg [.lit (.int .u8 0), .lit (.int .u8 1), .lit (.int .u8 56), .lit (.int .u8 2), .lit (.int .u8 57), .lit (.int .u8 49), .lit (.int .u8 28), .lit (.int .u8 3), .lit (.int .u8 61), .lit (.int .u8 58), .lit (.int .u8 42), .lit (.int .u8 50), .lit (.int .u8 38), .lit (.int .u8 29), .lit (.int .u8 17), .lit (.int .u8 4), .lit (.int .u8 62), .lit (.int .u8 47), .lit (.int .u8 59), .lit (.int .u8 36), .lit (.int .u8 45), .lit (.int .u8 43), .lit (.int .u8 51), .lit (.int .u8 22), .lit (.int .u8 53), .lit (.int .u8 39), .lit (.int .u8 33), .lit (.int .u8 30), .lit (.int .u8 24), .lit (.int .u8 18), .lit (.int .u8 12), .lit (.int .u8 5), .lit (.int .u8 63), .lit (.int .u8 55), .lit (.int .u8 48), .lit (.int .u8 27), .lit (.int .u8 60), .lit (.int .u8 41), .lit (.int .u8 37), .lit (.int .u8 16), .lit (.int .u8 46), .lit (.int .u8 35), .lit (.int .u8 44), .lit (.int .u8 21), .lit (.int .u8 52), .lit (.int .u8 32), .lit (.int .u8 23), .lit (.int .u8 11), .lit (.int .u8 54), .lit (.int .u8 26), .lit (.int .u8 40), .lit (.int .u8 15), .lit (.int .u8 34), .lit (.int .u8 20), .lit (.int .u8 31), .lit (.int .u8 10), .lit (.int .u8 25), .lit (.int .u8 14), .lit (.int .u8 19), .lit (.int .u8 9), .lit (.int .u8 13), .lit (.int .u8 8), .lit (.int .u8 7), .lit (.int .u8 6)]
def laid_internal_strconv_uint64pow10 {H : Type} : DataW H := .agg [.lit (.int .u64 1), .lit (.int .u64 10), .lit (.int .u64 100), .lit (.int .u64 1000), .lit (.int .u64 10000), .lit (.int .u64 100000), .lit (.int .u64 1000000), .lit (.int .u64 10000000), .lit (.int .u64 100000000), .lit (.int .u64 1000000000), .lit (.int .u64 10000000000), .lit (.int .u64 100000000000), .lit (.int .u64 1000000000000), .lit (.int .u64 10000000000000), .lit (.int .u64 100000000000000), .lit (.int .u64 1000000000000000), .lit (.int .u64 10000000000000000), .lit (.int .u64 100000000000000000), .lit (.int .u64 1000000000000000000), .lit (.int .u64 10000000000000000000)]

/-- 'bruitlaw49.BlameSays': WHATEVER THE INPUT: true; the input reads as it did. -/
def blameSaysSpec : ChangeSpec := { name := "blameSays", fn := fun _ => fun
  | [d1, d2, d3] => { results := [.lit (.bool true)], args := [d1, d2, d3] }
  | _ => none }
def blameSaysRow : OpenClaim := { program := "ytanfebljiblhbaagreatdoor", sum := "035fd8487c234c3003783ce2958aba1041f076a313c180c731067e20dd184a10", func := "bruit/bruitlaw49.BlameSays", spec := "blameSays", inPlace := ["internal/bytealg.IndexByteString"], unfollowed := true, recurses := true, named := ["internal/strconv.uint64pow10", "math/bits.deBruijn32tab", "math/bits.deBruijn64tab"], plainKeys := false, apart := false, laid := [("math/bits.deBruijn32tab", laid_math_bits_deBruijn32tab), ("math/bits.deBruijn64tab", laid_math_bits_deBruijn64tab), ("internal/strconv.uint64pow10", laid_internal_strconv_uint64pow10)] }
def BlameSaysSaid : Prop := blameSaysRow.holds Tryz.pinned (OpenSpec.ofChange blameSaysSpec)

/-- ITS FALSE NEIGHBOUR: 'it returns false'. Refute it at one input. -/
def blameSaysWrong : ChangeSpec := { name := "blameSays", fn := fun _ => fun
  | [d1, d2, d3] => { results := [.lit (.bool false)], args := [d1, d2, d3] }
  | _ => none }
def BlameSaysWrongFalsely : Prop := blameSaysRow.holds Tryz.pinned (OpenSpec.ofChange blameSaysWrong)

/-- 'bruitlaw49.BlameHands': WHATEVER THE INPUT: true; the input reads as it did. -/
def blameHandsSpec : ChangeSpec := { name := "blameHands", fn := fun _ => fun
  | [d1, d2] => { results := [.lit (.bool true)], args := [d1, d2] }
  | _ => none }
def blameHandsRow : OpenClaim := { program := "ytanfebljiblhbaagreatdoor", sum := "035fd8487c234c3003783ce2958aba1041f076a313c180c731067e20dd184a10", func := "bruit/bruitlaw49.BlameHands", spec := "blameHands", inPlace := ["internal/bytealg.IndexByteString"], unfollowed := true, recurses := true, named := ["internal/strconv.uint64pow10", "math/bits.deBruijn32tab", "math/bits.deBruijn64tab"], plainKeys := false, apart := false, laid := [("math/bits.deBruijn32tab", laid_math_bits_deBruijn32tab), ("math/bits.deBruijn64tab", laid_math_bits_deBruijn64tab), ("internal/strconv.uint64pow10", laid_internal_strconv_uint64pow10)] }
def BlameHandsSaid : Prop := blameHandsRow.holds Tryz.pinned (OpenSpec.ofChange blameHandsSpec)

/-- ITS FALSE NEIGHBOUR: 'it returns false'. Refute it at one input. -/
def blameHandsWrong : ChangeSpec := { name := "blameHands", fn := fun _ => fun
  | [d1, d2] => { results := [.lit (.bool false)], args := [d1, d2] }
  | _ => none }
def BlameHandsWrongFalsely : Prop := blameHandsRow.holds Tryz.pinned (OpenSpec.ofChange blameHandsWrong)

/-- 'bruitlaw25.RenderSays': WHATEVER THE INPUT: true; the input reads as it did. -/
def renderSaysSpec : ChangeSpec := { name := "renderSays", fn := fun _ => fun
  | [d] => { results := [.lit (.bool true)], args := [d] }
  | _ => none }
def renderSaysRow : OpenClaim := { program := "ytanfebljiblhbaagreatdoor", sum := "035fd8487c234c3003783ce2958aba1041f076a313c180c731067e20dd184a10", func := "bruit/bruitlaw25.RenderSays", spec := "renderSays", inPlace := ["internal/bytealg.IndexByteString"], unfollowed := true, recurses := true, named := ["internal/strconv.uint64pow10", "math/bits.deBruijn32tab", "math/bits.deBruijn64tab"], plainKeys := false, apart := false, laid := [("math/bits.deBruijn32tab", laid_math_bits_deBruijn32tab), ("math/bits.deBruijn64tab", laid_math_bits_deBruijn64tab), ("internal/strconv.uint64pow10", laid_internal_strconv_uint64pow10)] }
def RenderSaysSaid : Prop := renderSaysRow.holds Tryz.pinned (OpenSpec.ofChange renderSaysSpec)

/-- ITS FALSE NEIGHBOUR: 'it returns false'. Refute it at one input. -/
def renderSaysWrong : ChangeSpec := { name := "renderSays", fn := fun _ => fun
  | [d] => { results := [.lit (.bool false)], args := [d] }
  | _ => none }
def RenderSaysWrongFalsely : Prop := renderSaysRow.holds Tryz.pinned (OpenSpec.ofChange renderSaysWrong)

/-- 'bruitlaw25.RenderClean': WHATEVER THE INPUT: true; the input reads as it did. -/
def renderCleanSpec : ChangeSpec := { name := "renderClean", fn := fun _ => fun
  | [d] => { results := [.lit (.bool true)], args := [d] }
  | _ => none }
def renderCleanRow : OpenClaim := { program := "ytanfebljiblhbaagreatdoor", sum := "035fd8487c234c3003783ce2958aba1041f076a313c180c731067e20dd184a10", func := "bruit/bruitlaw25.RenderClean", spec := "renderClean", inPlace := ["internal/bytealg.IndexByteString"], unfollowed := true, recurses := true, named := ["internal/strconv.uint64pow10", "math/bits.deBruijn32tab", "math/bits.deBruijn64tab"], plainKeys := false, apart := false, laid := [("math/bits.deBruijn32tab", laid_math_bits_deBruijn32tab), ("math/bits.deBruijn64tab", laid_math_bits_deBruijn64tab), ("internal/strconv.uint64pow10", laid_internal_strconv_uint64pow10)] }
def RenderCleanSaid : Prop := renderCleanRow.holds Tryz.pinned (OpenSpec.ofChange renderCleanSpec)

/-- ITS FALSE NEIGHBOUR: 'it returns false'. Refute it at one input. -/
def renderCleanWrong : ChangeSpec := { name := "renderClean", fn := fun _ => fun
  | [d] => { results := [.lit (.bool false)], args := [d] }
  | _ => none }
def RenderCleanWrongFalsely : Prop := renderCleanRow.holds Tryz.pinned (OpenSpec.ofChange renderCleanWrong)

/-- 'bruitlaw25.RenderTurns': WHATEVER THE INPUT: true; the input reads as it did. -/
def renderTurnsSpec : ChangeSpec := { name := "renderTurns", fn := fun _ => fun
  | [d1, d2] => { results := [.lit (.bool true)], args := [d1, d2] }
  | _ => none }
def renderTurnsRow : OpenClaim := { program := "ytanfebljiblhbaagreatdoor", sum := "035fd8487c234c3003783ce2958aba1041f076a313c180c731067e20dd184a10", func := "bruit/bruitlaw25.RenderTurns", spec := "renderTurns", inPlace := ["internal/bytealg.IndexByteString"], unfollowed := true, recurses := true, named := ["internal/strconv.uint64pow10", "math/bits.deBruijn32tab", "math/bits.deBruijn64tab"], plainKeys := false, apart := false, laid := [("math/bits.deBruijn32tab", laid_math_bits_deBruijn32tab), ("math/bits.deBruijn64tab", laid_math_bits_deBruijn64tab), ("internal/strconv.uint64pow10", laid_internal_strconv_uint64pow10)] }
def RenderTurnsSaid : Prop := renderTurnsRow.holds Tryz.pinned (OpenSpec.ofChange renderTurnsSpec)

/-- ITS FALSE NEIGHBOUR: 'it returns false'. Refute it at one input. -/
def renderTurnsWrong : ChangeSpec := { name := "renderTurns", fn := fun _ => fun
  | [d1, d2] => { results := [.lit (.bool false)], args := [d1, d2] }
  | _ => none }
def RenderTurnsWrongFalsely : Prop := renderTurnsRow.holds Tryz.pinned (OpenSpec.ofChange renderTurnsWrong)

/-- 'bruitlaw49.BlameSums': WHATEVER THE INPUT: true; the input reads as it did. -/
def blameSumsSpec : ChangeSpec := { name := "blameSums", fn := fun _ => fun
  | [d] => { results := [.lit (.bool true)], args := [d] }
  | _ => none }
def blameSumsRow : OpenClaim := { program := "ytanfebljiblhbaagreatdoor", sum := "035fd8487c234c3003783ce2958aba1041f076a313c180c731067e20dd184a10", func := "bruit/bruitlaw49.BlameSums", spec := "blameSums", inPlace := ["internal/bytealg.IndexByteString"], unfollowed := true, recurses := true, named := ["internal/strconv.uint64pow10", "math/bits.deBruijn32tab", "math/bits.deBruijn64tab"], plainKeys := false, apart := false, laid := [("math/bits.deBruijn32tab", laid_math_bits_deBruijn32tab), ("math/bits.deBruijn64tab", laid_math_bits_deBruijn64tab), ("internal/strconv.uint64pow10", laid_internal_strconv_uint64pow10)] }
def BlameSumsSaid : Prop := blameSumsRow.holds Tryz.pinned (OpenSpec.ofChange blameSumsSpec)

/-- ITS FALSE NEIGHBOUR: 'it returns false'. Refute it at one input. -/
def blameSumsWrong : ChangeSpec := { name := "blameSums", fn := fun _ => fun
  | [d] => { results := [.lit (.bool false)], args := [d] }
  | _ => none }
def BlameSumsWrongFalsely : Prop := blameSumsRow.holds Tryz.pinned (OpenSpec.ofChange blameSumsWrong)

/- THE SECOND FORM. 'bulk': how many values and letters a reading holds, each counted each time it is reached (what is shared counts as often as it is met; a slice's spare places count too). A statement '..UptoSaid' is the law's where the arguments, and the package variables that the reading takes, are together of bulk at most 1048576: NARROWER than '..Said'. Prove '..Said' where nothing that the law and all that it calls make is longer than what came in: it says more and counts as full. Else prove '..UptoSaid'. A law counts once. -/
mutual
def uptoBulk {H : Type} : DataW H → Nat
  | .lit (.string bytes) => bytes.length + 1
  | .lit _ => 1
  | .nil => 1
  | .ptr d => uptoBulk d + 1
  | .slice elems spare => uptoBulkAll elems + uptoBulkAll spare + 1
  | .agg parts => uptoBulkAll parts + 1
  | .iface _ d => uptoBulk d + 1
  | .map entries => uptoBulkEntries entries + 1
  | .held _ => 1
def uptoBulkAll {H : Type} : List (DataW H) → Nat
  | [] => 0
  | d :: r => uptoBulk d + uptoBulkAll r
def uptoBulkEntries {H : Type} : List (Lit × DataW H) → Nat
  | [] => 0
  | x :: r => uptoBulkEntry x + uptoBulkEntries r
def uptoBulkEntry {H : Type} : Lit × DataW H → Nat
  | (.string bytes, d) => bytes.length + uptoBulk d + 1
  | (_, d) => uptoBulk d + 1
 end
def uptoSmall : (H : Type) → List (DataW H) → Bool := fun _ ds => decide (uptoBulkAll ds ≤ 1048576)
def OpenSpec.upto (s : _root_.Go.ChangeSpec) : _root_.Go.OpenSpec := { _root_.Go.OpenSpec.ofChange s with cond := some uptoSmall }

/-- 'bruitlaw49.BlameSays', WHERE WHAT IT READS IS OF BULK AT MOST 1048576: true; the input reads as it did. -/
def blameSaysUptoRow : OpenClaim := { program := "ytanfebljiblhbaagreatdoor", sum := "035fd8487c234c3003783ce2958aba1041f076a313c180c731067e20dd184a10", func := "bruit/bruitlaw49.BlameSays", spec := "blameSays", inPlace := ["internal/bytealg.IndexByteString"], unfollowed := true, recurses := true, named := ["internal/strconv.uint64pow10", "math/bits.deBruijn32tab", "math/bits.deBruijn64tab"], plainKeys := false, apart := false, laid := [("math/bits.deBruijn32tab", laid_math_bits_deBruijn32tab), ("math/bits.deBruijn64tab", laid_math_bits_deBruijn64tab), ("internal/strconv.uint64pow10", laid_internal_strconv_uint64pow10)], narrowed := true }
def BlameSaysUptoSaid : Prop := blameSaysUptoRow.holds Tryz.pinned (OpenSpec.upto blameSaysSpec)

/-- 'bruitlaw49.BlameHands', WHERE WHAT IT READS IS OF BULK AT MOST 1048576: true; the input reads as it did. -/
def blameHandsUptoRow : OpenClaim := { program := "ytanfebljiblhbaagreatdoor", sum := "035fd8487c234c3003783ce2958aba1041f076a313c180c731067e20dd184a10", func := "bruit/bruitlaw49.BlameHands", spec := "blameHands", inPlace := ["internal/bytealg.IndexByteString"], unfollowed := true, recurses := true, named := ["internal/strconv.uint64pow10", "math/bits.deBruijn32tab", "math/bits.deBruijn64tab"], plainKeys := false, apart := false, laid := [("math/bits.deBruijn32tab", laid_math_bits_deBruijn32tab), ("math/bits.deBruijn64tab", laid_math_bits_deBruijn64tab), ("internal/strconv.uint64pow10", laid_internal_strconv_uint64pow10)], narrowed := true }
def BlameHandsUptoSaid : Prop := blameHandsUptoRow.holds Tryz.pinned (OpenSpec.upto blameHandsSpec)

/-- 'bruitlaw25.RenderSays', WHERE WHAT IT READS IS OF BULK AT MOST 1048576: true; the input reads as it did. -/
def renderSaysUptoRow : OpenClaim := { program := "ytanfebljiblhbaagreatdoor", sum := "035fd8487c234c3003783ce2958aba1041f076a313c180c731067e20dd184a10", func := "bruit/bruitlaw25.RenderSays", spec := "renderSays", inPlace := ["internal/bytealg.IndexByteString"], unfollowed := true, recurses := true, named := ["internal/strconv.uint64pow10", "math/bits.deBruijn32tab", "math/bits.deBruijn64tab"], plainKeys := false, apart := false, laid := [("math/bits.deBruijn32tab", laid_math_bits_deBruijn32tab), ("math/bits.deBruijn64tab", laid_math_bits_deBruijn64tab), ("internal/strconv.uint64pow10", laid_internal_strconv_uint64pow10)], narrowed := true }
def RenderSaysUptoSaid : Prop := renderSaysUptoRow.holds Tryz.pinned (OpenSpec.upto renderSaysSpec)

/-- 'bruitlaw25.RenderClean', WHERE WHAT IT READS IS OF BULK AT MOST 1048576: true; the input reads as it did. -/
def renderCleanUptoRow : OpenClaim := { program := "ytanfebljiblhbaagreatdoor", sum := "035fd8487c234c3003783ce2958aba1041f076a313c180c731067e20dd184a10", func := "bruit/bruitlaw25.RenderClean", spec := "renderClean", inPlace := ["internal/bytealg.IndexByteString"], unfollowed := true, recurses := true, named := ["internal/strconv.uint64pow10", "math/bits.deBruijn32tab", "math/bits.deBruijn64tab"], plainKeys := false, apart := false, laid := [("math/bits.deBruijn32tab", laid_math_bits_deBruijn32tab), ("math/bits.deBruijn64tab", laid_math_bits_deBruijn64tab), ("internal/strconv.uint64pow10", laid_internal_strconv_uint64pow10)], narrowed := true }
def RenderCleanUptoSaid : Prop := renderCleanUptoRow.holds Tryz.pinned (OpenSpec.upto renderCleanSpec)

/-- 'bruitlaw25.RenderTurns', WHERE WHAT IT READS IS OF BULK AT MOST 1048576: true; the input reads as it did. -/
def renderTurnsUptoRow : OpenClaim := { program := "ytanfebljiblhbaagreatdoor", sum := "035fd8487c234c3003783ce2958aba1041f076a313c180c731067e20dd184a10", func := "bruit/bruitlaw25.RenderTurns", spec := "renderTurns", inPlace := ["internal/bytealg.IndexByteString"], unfollowed := true, recurses := true, named := ["internal/strconv.uint64pow10", "math/bits.deBruijn32tab", "math/bits.deBruijn64tab"], plainKeys := false, apart := false, laid := [("math/bits.deBruijn32tab", laid_math_bits_deBruijn32tab), ("math/bits.deBruijn64tab", laid_math_bits_deBruijn64tab), ("internal/strconv.uint64pow10", laid_internal_strconv_uint64pow10)], narrowed := true }
def RenderTurnsUptoSaid : Prop := renderTurnsUptoRow.holds Tryz.pinned (OpenSpec.upto renderTurnsSpec)

/-- 'bruitlaw49.BlameSums', WHERE WHAT IT READS IS OF BULK AT MOST 1048576: true; the input reads as it did. -/
def blameSumsUptoRow : OpenClaim := { program := "ytanfebljiblhbaagreatdoor", sum := "035fd8487c234c3003783ce2958aba1041f076a313c180c731067e20dd184a10", func := "bruit/bruitlaw49.BlameSums", spec := "blameSums", inPlace := ["internal/bytealg.IndexByteString"], unfollowed := true, recurses := true, named := ["internal/strconv.uint64pow10", "math/bits.deBruijn32tab", "math/bits.deBruijn64tab"], plainKeys := false, apart := false, laid := [("math/bits.deBruijn32tab", laid_math_bits_deBruijn32tab), ("math/bits.deBruijn64tab", laid_math_bits_deBruijn64tab), ("internal/strconv.uint64pow10", laid_internal_strconv_uint64pow10)], narrowed := true }
def BlameSumsUptoSaid : Prop := blameSumsUptoRow.holds Tryz.pinned (OpenSpec.upto blameSumsSpec)

end Rows
end Go.Proofs.YtanfebljiblhbaaGreatDoor
