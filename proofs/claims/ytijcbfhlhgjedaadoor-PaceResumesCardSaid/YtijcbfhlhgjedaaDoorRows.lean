/-
  NARROWER THAN 'FOR EVERY INPUT', by the rows' own cells (each row's printed sentence says how): PaceBetween: laid · PaceLasts: laid · PacePlans: laid · PaceFits: laid · PaceGood: laid · PaceLatest: laid · PaceSaid: laid · PaceNarrows: laid · PaceKeeps: laid · PaceHeard: laid · PaceResumes: laid · PaceBetter: laid · PaceSums: laid.
  DERIVED. THE GIVEN ROWS OF THIS SEAT. 13 by the template 'for every input the law returns true; each argument reads behind the call as it read before'; 0 by the template 'total and deterministic' (their statements: YtijcbfhlhgjedaaDoorTotals.lean).
  GIVEN WITH THE SEED: the statements are not yours to turn. If you find one false, say at which input.
  Laid BY PROGRAM, IN A SANDBOX (cutbox-rows.mjs): the forced cells as the released guide's own fill.sh prints them over the translation c05ade79b7bd63f0… (all of the seat's roots in one cut). By AI agents, Wed Nov 11 2026. No macro, syntax, notation, axiom, sorry.
-/
import Derived.Test.YtijcbfhlhgjedaaDoorChecked
import GoSem.Claim
import GoSem.ClaimJoined
import GoSem.ClaimMapViews
import Derived.JoinedTies
import Derived.KernelRfl
namespace Go.Proofs.YtijcbfhlhgjedaaDoor
/- THE CELL 'sum', in the pinned program and in every row, IS THE sha256 OF THE DUMP (.gsa) THAT YtijcbfhlhgjedaaDoorProg.lean LOADS. Nothing in Lean hashes anything: it is a label: what it is worth is what the hold of that sum in a sandbox is worth. -/
noncomputable def Tryd.pinned : Pinned := { name := "ytijcbfhlhgjedaadoor", sum := "c05ade79b7bd63f0fbefaf3497c59cf732bb7d4a1fdf4eb026196d1ca94a025f", checked := Tryd.checked }
namespace Rows
def none {H : Type} : Left H := { results := [], args := [] }

/- WHAT THE LISTED PACKAGE-LEVEL VARIABLES READ AS WHEN THE CALL BEGINS. Each datum BY PROGRAM (the guide's laid-datum.mjs) off the statement by which the dump's own 'gosem.cut.vars' lays the variable. In a bare row this is a premise. The card (YtijcbfhlhgjedaaDoorCards.lean) ties it to the program's text. -/
def laid_math_bits_deBruijn32tab {H : Type} : DataW H := .agg [.lit (.int .u8 0), .lit (.int .u8 1), .lit (.int .u8 28), .lit (.int .u8 2), .lit (.int .u8 29), .lit (.int .u8 14), .lit (.int .u8 24), .lit (.int .u8 3), .lit (.int .u8 30), .lit (.int .u8 22), .lit (.int .u8 20), .lit (.int .u8 15), .lit (.int .u8 25), .lit (.int .u8 17), .lit (.int .u8 4), .lit (.int .u8 8), .lit (.int .u8 31), .lit (.int .u8 27), .lit (.int .u8 13), .lit (.int .u8 23), .lit (.int .u8 21), .lit (.int .u8 19), .lit (.int .u8 16), .lit (.int .u8 7), .lit (.int .u8 26), .lit (.int .u8 12), .lit (.int .u8 18), .lit (.int .u8 6), .lit (.int .u8 11), .lit (.int .u8 5), .lit (.int .u8 10), .lit (.int .u8 9)]
def laid_math_bits_deBruijn64tab {H : Type} : DataW H := .agg [.lit (.int .u8 0), .lit (.int .u8 1), .lit (.int .u8 56), .lit (.int .u8 2), .lit (.int .u8 57), .lit (.int .u8 49), .lit (.int .u8 28), .lit (.int .u8 3), .lit (.int .u8 61), .lit (.int .u8 58), .lit (.int .u8 42), .lit (.int .u8 50), .lit (.int .u8 38), .lit (.int .u8 29), .lit (.int .u8 17), .lit (.int .u8 4), .lit (.int .u8 62), .lit (.int .u8 47), .lit (.int .u8 59), .lit (.int .u8 36), .lit (.int .u8 45), .lit (.int .u8 43), .lit (.int .u8 51), .lit (.int .u8 22), .lit (.int .u8 53), .lit (.int .u8 39), .lit (.int .u8 33), .lit (.int .u8 30), .lit (.int .u8 24), .lit (.int .u8 18), .lit (.int .u8 12), .lit (.int .u8 5), .lit (.int .u8 63), .lit (.int .u8 55), .lit (.int .u8 48), .lit (.int .u8 27), .lit (.int .u8 60), .lit (.int .u8 41), .lit (.int .u8 37), .lit (.int .u8 16), .lit (.int .u8 46), .lit (.int .u8 35), .lit (.int .u8 44), .lit (.int .u8 21), .lit (.int .u8 52), .lit (.int .u8 32), .lit (.int .u8 23), .lit (.int .u8 11), .lit (.int .u8 54), .lit (.int .u8 26), .lit (.int .u8 40), .lit (.int .u8 15), .lit (.int .u8 34), .lit (.int .u8 20), .lit (.int .u8 31), .lit (.int .u8 10), .lit (.int .u8 25), .lit (.int .u8 14), .lit (.int .u8 19), .lit (.int .u8 9), .lit (.int .u8 13), .lit (.int .u8 8), .lit (.int .u8 7), .lit (.int .u8 6)]
def laid_internal_strconv_uint64pow10 {H : Type} : DataW H := .agg [.lit (.int .u64 1), .lit (.int .u64 10), .lit (.int .u64 100), .lit (.int .u64 1000), .lit (.int .u64 10000), .lit (.int .u64 100000), .lit (.int .u64 1000000), .lit (.int .u64 10000000), .lit (.int .u64 100000000), .lit (.int .u64 1000000000), .lit (.int .u64 10000000000), .lit (.int .u64 100000000000), .lit (.int .u64 1000000000000), .lit (.int .u64 10000000000000), .lit (.int .u64 100000000000000), .lit (.int .u64 1000000000000000), .lit (.int .u64 10000000000000000), .lit (.int .u64 100000000000000000), .lit (.int .u64 1000000000000000000), .lit (.int .u64 10000000000000000000)]

/-- 'hairpinlaw03.PaceBetween': WHATEVER THE INPUT: true; the input reads as it did. -/
def paceBetweenSpec : ChangeSpec := { name := "paceBetween", fn := fun _ => fun
  | [d1, d2, d3, d4] => { results := [.lit (.bool true)], args := [d1, d2, d3, d4] }
  | _ => none }
def paceBetweenRow : OpenClaim := { program := "ytijcbfhlhgjedaadoor", sum := "c05ade79b7bd63f0fbefaf3497c59cf732bb7d4a1fdf4eb026196d1ca94a025f", func := "hairpin/hairpinlaw03.PaceBetween", spec := "paceBetween", inPlace := ["internal/abi.NoEscape", "internal/bytealg.MakeNoZero"], unfollowed := true, recurses := true, named := ["internal/strconv.uint64pow10", "math/bits.deBruijn32tab", "math/bits.deBruijn64tab"], apart := false, laid := [("math/bits.deBruijn32tab", laid_math_bits_deBruijn32tab), ("math/bits.deBruijn64tab", laid_math_bits_deBruijn64tab), ("internal/strconv.uint64pow10", laid_internal_strconv_uint64pow10)] }
def PaceBetweenSaid : Prop := paceBetweenRow.holds Tryd.pinned (OpenSpec.ofChange paceBetweenSpec)

/-- ITS FALSE NEIGHBOUR: 'it returns false'. Refute it at one input. -/
def paceBetweenWrong : ChangeSpec := { name := "paceBetween", fn := fun _ => fun
  | [d1, d2, d3, d4] => { results := [.lit (.bool false)], args := [d1, d2, d3, d4] }
  | _ => none }
def PaceBetweenWrongFalsely : Prop := paceBetweenRow.holds Tryd.pinned (OpenSpec.ofChange paceBetweenWrong)

/-- 'hairpinlaw03.PaceLasts': WHATEVER THE INPUT: true; the input reads as it did. -/
def paceLastsSpec : ChangeSpec := { name := "paceLasts", fn := fun _ => fun
  | [d1, d2] => { results := [.lit (.bool true)], args := [d1, d2] }
  | _ => none }
def paceLastsRow : OpenClaim := { program := "ytijcbfhlhgjedaadoor", sum := "c05ade79b7bd63f0fbefaf3497c59cf732bb7d4a1fdf4eb026196d1ca94a025f", func := "hairpin/hairpinlaw03.PaceLasts", spec := "paceLasts", inPlace := ["internal/abi.NoEscape", "internal/bytealg.MakeNoZero"], unfollowed := true, recurses := true, named := ["internal/strconv.uint64pow10", "math/bits.deBruijn32tab", "math/bits.deBruijn64tab"], apart := false, laid := [("math/bits.deBruijn32tab", laid_math_bits_deBruijn32tab), ("math/bits.deBruijn64tab", laid_math_bits_deBruijn64tab), ("internal/strconv.uint64pow10", laid_internal_strconv_uint64pow10)] }
def PaceLastsSaid : Prop := paceLastsRow.holds Tryd.pinned (OpenSpec.ofChange paceLastsSpec)

/-- ITS FALSE NEIGHBOUR: 'it returns false'. Refute it at one input. -/
def paceLastsWrong : ChangeSpec := { name := "paceLasts", fn := fun _ => fun
  | [d1, d2] => { results := [.lit (.bool false)], args := [d1, d2] }
  | _ => none }
def PaceLastsWrongFalsely : Prop := paceLastsRow.holds Tryd.pinned (OpenSpec.ofChange paceLastsWrong)

/-- 'hairpinlaw03.PacePlans': WHATEVER THE INPUT: true; the input reads as it did. -/
def pacePlansSpec : ChangeSpec := { name := "pacePlans", fn := fun _ => fun
  | [d1, d2, d3] => { results := [.lit (.bool true)], args := [d1, d2, d3] }
  | _ => none }
def pacePlansRow : OpenClaim := { program := "ytijcbfhlhgjedaadoor", sum := "c05ade79b7bd63f0fbefaf3497c59cf732bb7d4a1fdf4eb026196d1ca94a025f", func := "hairpin/hairpinlaw03.PacePlans", spec := "pacePlans", inPlace := ["internal/abi.NoEscape", "internal/bytealg.MakeNoZero"], unfollowed := true, recurses := true, named := ["internal/strconv.uint64pow10", "math/bits.deBruijn32tab", "math/bits.deBruijn64tab"], apart := false, laid := [("math/bits.deBruijn32tab", laid_math_bits_deBruijn32tab), ("math/bits.deBruijn64tab", laid_math_bits_deBruijn64tab), ("internal/strconv.uint64pow10", laid_internal_strconv_uint64pow10)] }
def PacePlansSaid : Prop := pacePlansRow.holds Tryd.pinned (OpenSpec.ofChange pacePlansSpec)

/-- ITS FALSE NEIGHBOUR: 'it returns false'. Refute it at one input. -/
def pacePlansWrong : ChangeSpec := { name := "pacePlans", fn := fun _ => fun
  | [d1, d2, d3] => { results := [.lit (.bool false)], args := [d1, d2, d3] }
  | _ => none }
def PacePlansWrongFalsely : Prop := pacePlansRow.holds Tryd.pinned (OpenSpec.ofChange pacePlansWrong)

/-- 'hairpinlaw03.PaceFits': WHATEVER THE INPUT: true; the input reads as it did. -/
def paceFitsSpec : ChangeSpec := { name := "paceFits", fn := fun _ => fun
  | [d1, d2, d3, d4] => { results := [.lit (.bool true)], args := [d1, d2, d3, d4] }
  | _ => none }
def paceFitsRow : OpenClaim := { program := "ytijcbfhlhgjedaadoor", sum := "c05ade79b7bd63f0fbefaf3497c59cf732bb7d4a1fdf4eb026196d1ca94a025f", func := "hairpin/hairpinlaw03.PaceFits", spec := "paceFits", inPlace := ["internal/abi.NoEscape", "internal/bytealg.MakeNoZero"], unfollowed := true, recurses := true, named := ["internal/strconv.uint64pow10", "math/bits.deBruijn32tab", "math/bits.deBruijn64tab"], apart := false, laid := [("math/bits.deBruijn32tab", laid_math_bits_deBruijn32tab), ("math/bits.deBruijn64tab", laid_math_bits_deBruijn64tab), ("internal/strconv.uint64pow10", laid_internal_strconv_uint64pow10)] }
def PaceFitsSaid : Prop := paceFitsRow.holds Tryd.pinned (OpenSpec.ofChange paceFitsSpec)

/-- ITS FALSE NEIGHBOUR: 'it returns false'. Refute it at one input. -/
def paceFitsWrong : ChangeSpec := { name := "paceFits", fn := fun _ => fun
  | [d1, d2, d3, d4] => { results := [.lit (.bool false)], args := [d1, d2, d3, d4] }
  | _ => none }
def PaceFitsWrongFalsely : Prop := paceFitsRow.holds Tryd.pinned (OpenSpec.ofChange paceFitsWrong)

/-- 'hairpinlaw03.PaceGood': WHATEVER THE INPUT: true; the input reads as it did. -/
def paceGoodSpec : ChangeSpec := { name := "paceGood", fn := fun _ => fun
  | [d1, d2, d3, d4] => { results := [.lit (.bool true)], args := [d1, d2, d3, d4] }
  | _ => none }
def paceGoodRow : OpenClaim := { program := "ytijcbfhlhgjedaadoor", sum := "c05ade79b7bd63f0fbefaf3497c59cf732bb7d4a1fdf4eb026196d1ca94a025f", func := "hairpin/hairpinlaw03.PaceGood", spec := "paceGood", inPlace := ["internal/abi.NoEscape", "internal/bytealg.MakeNoZero"], unfollowed := true, recurses := true, named := ["internal/strconv.uint64pow10", "math/bits.deBruijn32tab", "math/bits.deBruijn64tab"], apart := false, laid := [("math/bits.deBruijn32tab", laid_math_bits_deBruijn32tab), ("math/bits.deBruijn64tab", laid_math_bits_deBruijn64tab), ("internal/strconv.uint64pow10", laid_internal_strconv_uint64pow10)] }
def PaceGoodSaid : Prop := paceGoodRow.holds Tryd.pinned (OpenSpec.ofChange paceGoodSpec)

/-- ITS FALSE NEIGHBOUR: 'it returns false'. Refute it at one input. -/
def paceGoodWrong : ChangeSpec := { name := "paceGood", fn := fun _ => fun
  | [d1, d2, d3, d4] => { results := [.lit (.bool false)], args := [d1, d2, d3, d4] }
  | _ => none }
def PaceGoodWrongFalsely : Prop := paceGoodRow.holds Tryd.pinned (OpenSpec.ofChange paceGoodWrong)

/-- 'hairpinlaw03.PaceLatest': WHATEVER THE INPUT: true; the input reads as it did. -/
def paceLatestSpec : ChangeSpec := { name := "paceLatest", fn := fun _ => fun
  | [d1, d2, d3, d4, d5] => { results := [.lit (.bool true)], args := [d1, d2, d3, d4, d5] }
  | _ => none }
def paceLatestRow : OpenClaim := { program := "ytijcbfhlhgjedaadoor", sum := "c05ade79b7bd63f0fbefaf3497c59cf732bb7d4a1fdf4eb026196d1ca94a025f", func := "hairpin/hairpinlaw03.PaceLatest", spec := "paceLatest", inPlace := ["internal/abi.NoEscape", "internal/bytealg.MakeNoZero"], unfollowed := true, recurses := true, named := ["internal/strconv.uint64pow10", "math/bits.deBruijn32tab", "math/bits.deBruijn64tab"], apart := false, laid := [("math/bits.deBruijn32tab", laid_math_bits_deBruijn32tab), ("math/bits.deBruijn64tab", laid_math_bits_deBruijn64tab), ("internal/strconv.uint64pow10", laid_internal_strconv_uint64pow10)] }
def PaceLatestSaid : Prop := paceLatestRow.holds Tryd.pinned (OpenSpec.ofChange paceLatestSpec)

/-- ITS FALSE NEIGHBOUR: 'it returns false'. Refute it at one input. -/
def paceLatestWrong : ChangeSpec := { name := "paceLatest", fn := fun _ => fun
  | [d1, d2, d3, d4, d5] => { results := [.lit (.bool false)], args := [d1, d2, d3, d4, d5] }
  | _ => none }
def PaceLatestWrongFalsely : Prop := paceLatestRow.holds Tryd.pinned (OpenSpec.ofChange paceLatestWrong)

/-- 'hairpinlaw03.PaceSaid': WHATEVER THE INPUT: true; the input reads as it did. -/
def paceSaidSpec : ChangeSpec := { name := "paceSaid", fn := fun _ => fun
  | [d1, d2, d3, d4] => { results := [.lit (.bool true)], args := [d1, d2, d3, d4] }
  | _ => none }
def paceSaidRow : OpenClaim := { program := "ytijcbfhlhgjedaadoor", sum := "c05ade79b7bd63f0fbefaf3497c59cf732bb7d4a1fdf4eb026196d1ca94a025f", func := "hairpin/hairpinlaw03.PaceSaid", spec := "paceSaid", inPlace := ["internal/abi.NoEscape", "internal/bytealg.MakeNoZero"], unfollowed := true, recurses := true, named := ["internal/strconv.uint64pow10", "math/bits.deBruijn32tab", "math/bits.deBruijn64tab"], apart := false, laid := [("math/bits.deBruijn32tab", laid_math_bits_deBruijn32tab), ("math/bits.deBruijn64tab", laid_math_bits_deBruijn64tab), ("internal/strconv.uint64pow10", laid_internal_strconv_uint64pow10)] }
def PaceSaidSaid : Prop := paceSaidRow.holds Tryd.pinned (OpenSpec.ofChange paceSaidSpec)

/-- ITS FALSE NEIGHBOUR: 'it returns false'. Refute it at one input. -/
def paceSaidWrong : ChangeSpec := { name := "paceSaid", fn := fun _ => fun
  | [d1, d2, d3, d4] => { results := [.lit (.bool false)], args := [d1, d2, d3, d4] }
  | _ => none }
def PaceSaidWrongFalsely : Prop := paceSaidRow.holds Tryd.pinned (OpenSpec.ofChange paceSaidWrong)

/-- 'hairpinlaw03.PaceNarrows': WHATEVER THE INPUT: true; the input reads as it did. -/
def paceNarrowsSpec : ChangeSpec := { name := "paceNarrows", fn := fun _ => fun
  | [d1, d2, d3] => { results := [.lit (.bool true)], args := [d1, d2, d3] }
  | _ => none }
def paceNarrowsRow : OpenClaim := { program := "ytijcbfhlhgjedaadoor", sum := "c05ade79b7bd63f0fbefaf3497c59cf732bb7d4a1fdf4eb026196d1ca94a025f", func := "hairpin/hairpinlaw03.PaceNarrows", spec := "paceNarrows", inPlace := ["internal/abi.NoEscape", "internal/bytealg.MakeNoZero"], unfollowed := true, recurses := true, named := ["internal/strconv.uint64pow10", "math/bits.deBruijn32tab", "math/bits.deBruijn64tab"], apart := false, laid := [("math/bits.deBruijn32tab", laid_math_bits_deBruijn32tab), ("math/bits.deBruijn64tab", laid_math_bits_deBruijn64tab), ("internal/strconv.uint64pow10", laid_internal_strconv_uint64pow10)] }
def PaceNarrowsSaid : Prop := paceNarrowsRow.holds Tryd.pinned (OpenSpec.ofChange paceNarrowsSpec)

/-- ITS FALSE NEIGHBOUR: 'it returns false'. Refute it at one input. -/
def paceNarrowsWrong : ChangeSpec := { name := "paceNarrows", fn := fun _ => fun
  | [d1, d2, d3] => { results := [.lit (.bool false)], args := [d1, d2, d3] }
  | _ => none }
def PaceNarrowsWrongFalsely : Prop := paceNarrowsRow.holds Tryd.pinned (OpenSpec.ofChange paceNarrowsWrong)

/-- 'hairpinlaw03.PaceKeeps': WHATEVER THE INPUT: true; the input reads as it did. -/
def paceKeepsSpec : ChangeSpec := { name := "paceKeeps", fn := fun _ => fun
  | [d1, d2, d3, d4] => { results := [.lit (.bool true)], args := [d1, d2, d3, d4] }
  | _ => none }
def paceKeepsRow : OpenClaim := { program := "ytijcbfhlhgjedaadoor", sum := "c05ade79b7bd63f0fbefaf3497c59cf732bb7d4a1fdf4eb026196d1ca94a025f", func := "hairpin/hairpinlaw03.PaceKeeps", spec := "paceKeeps", inPlace := ["internal/abi.NoEscape", "internal/bytealg.MakeNoZero"], unfollowed := true, recurses := true, named := ["internal/strconv.uint64pow10", "math/bits.deBruijn32tab", "math/bits.deBruijn64tab"], apart := false, laid := [("math/bits.deBruijn32tab", laid_math_bits_deBruijn32tab), ("math/bits.deBruijn64tab", laid_math_bits_deBruijn64tab), ("internal/strconv.uint64pow10", laid_internal_strconv_uint64pow10)] }
def PaceKeepsSaid : Prop := paceKeepsRow.holds Tryd.pinned (OpenSpec.ofChange paceKeepsSpec)

/-- ITS FALSE NEIGHBOUR: 'it returns false'. Refute it at one input. -/
def paceKeepsWrong : ChangeSpec := { name := "paceKeeps", fn := fun _ => fun
  | [d1, d2, d3, d4] => { results := [.lit (.bool false)], args := [d1, d2, d3, d4] }
  | _ => none }
def PaceKeepsWrongFalsely : Prop := paceKeepsRow.holds Tryd.pinned (OpenSpec.ofChange paceKeepsWrong)

/-- 'hairpinlaw03.PaceHeard': WHATEVER THE INPUT: true; the input reads as it did. -/
def paceHeardSpec : ChangeSpec := { name := "paceHeard", fn := fun _ => fun
  | [d1, d2, d3, d4, d5] => { results := [.lit (.bool true)], args := [d1, d2, d3, d4, d5] }
  | _ => none }
def paceHeardRow : OpenClaim := { program := "ytijcbfhlhgjedaadoor", sum := "c05ade79b7bd63f0fbefaf3497c59cf732bb7d4a1fdf4eb026196d1ca94a025f", func := "hairpin/hairpinlaw03.PaceHeard", spec := "paceHeard", inPlace := ["internal/abi.NoEscape", "internal/bytealg.MakeNoZero"], unfollowed := true, recurses := true, named := ["internal/strconv.uint64pow10", "math/bits.deBruijn32tab", "math/bits.deBruijn64tab"], apart := false, laid := [("math/bits.deBruijn32tab", laid_math_bits_deBruijn32tab), ("math/bits.deBruijn64tab", laid_math_bits_deBruijn64tab), ("internal/strconv.uint64pow10", laid_internal_strconv_uint64pow10)] }
def PaceHeardSaid : Prop := paceHeardRow.holds Tryd.pinned (OpenSpec.ofChange paceHeardSpec)

/-- ITS FALSE NEIGHBOUR: 'it returns false'. Refute it at one input. -/
def paceHeardWrong : ChangeSpec := { name := "paceHeard", fn := fun _ => fun
  | [d1, d2, d3, d4, d5] => { results := [.lit (.bool false)], args := [d1, d2, d3, d4, d5] }
  | _ => none }
def PaceHeardWrongFalsely : Prop := paceHeardRow.holds Tryd.pinned (OpenSpec.ofChange paceHeardWrong)

/-- 'hairpinlaw03.PaceResumes': WHATEVER THE INPUT: true; the input reads as it did. -/
def paceResumesSpec : ChangeSpec := { name := "paceResumes", fn := fun _ => fun
  | [d1, d2, d3, d4, d5] => { results := [.lit (.bool true)], args := [d1, d2, d3, d4, d5] }
  | _ => none }
def paceResumesRow : OpenClaim := { program := "ytijcbfhlhgjedaadoor", sum := "c05ade79b7bd63f0fbefaf3497c59cf732bb7d4a1fdf4eb026196d1ca94a025f", func := "hairpin/hairpinlaw03.PaceResumes", spec := "paceResumes", inPlace := ["internal/abi.NoEscape", "internal/bytealg.MakeNoZero"], unfollowed := true, recurses := true, named := ["internal/strconv.uint64pow10", "math/bits.deBruijn32tab", "math/bits.deBruijn64tab"], apart := false, laid := [("math/bits.deBruijn32tab", laid_math_bits_deBruijn32tab), ("math/bits.deBruijn64tab", laid_math_bits_deBruijn64tab), ("internal/strconv.uint64pow10", laid_internal_strconv_uint64pow10)] }
def PaceResumesSaid : Prop := paceResumesRow.holds Tryd.pinned (OpenSpec.ofChange paceResumesSpec)

/-- ITS FALSE NEIGHBOUR: 'it returns false'. Refute it at one input. -/
def paceResumesWrong : ChangeSpec := { name := "paceResumes", fn := fun _ => fun
  | [d1, d2, d3, d4, d5] => { results := [.lit (.bool false)], args := [d1, d2, d3, d4, d5] }
  | _ => none }
def PaceResumesWrongFalsely : Prop := paceResumesRow.holds Tryd.pinned (OpenSpec.ofChange paceResumesWrong)

/-- 'hairpinlaw03.PaceBetter': WHATEVER THE INPUT: true; the input reads as it did. -/
def paceBetterSpec : ChangeSpec := { name := "paceBetter", fn := fun _ => fun
  | [d1, d2, d3, d4, d5] => { results := [.lit (.bool true)], args := [d1, d2, d3, d4, d5] }
  | _ => none }
def paceBetterRow : OpenClaim := { program := "ytijcbfhlhgjedaadoor", sum := "c05ade79b7bd63f0fbefaf3497c59cf732bb7d4a1fdf4eb026196d1ca94a025f", func := "hairpin/hairpinlaw03.PaceBetter", spec := "paceBetter", inPlace := ["internal/abi.NoEscape", "internal/bytealg.MakeNoZero"], unfollowed := true, recurses := true, named := ["internal/strconv.uint64pow10", "math/bits.deBruijn32tab", "math/bits.deBruijn64tab"], apart := false, laid := [("math/bits.deBruijn32tab", laid_math_bits_deBruijn32tab), ("math/bits.deBruijn64tab", laid_math_bits_deBruijn64tab), ("internal/strconv.uint64pow10", laid_internal_strconv_uint64pow10)] }
def PaceBetterSaid : Prop := paceBetterRow.holds Tryd.pinned (OpenSpec.ofChange paceBetterSpec)

/-- ITS FALSE NEIGHBOUR: 'it returns false'. Refute it at one input. -/
def paceBetterWrong : ChangeSpec := { name := "paceBetter", fn := fun _ => fun
  | [d1, d2, d3, d4, d5] => { results := [.lit (.bool false)], args := [d1, d2, d3, d4, d5] }
  | _ => none }
def PaceBetterWrongFalsely : Prop := paceBetterRow.holds Tryd.pinned (OpenSpec.ofChange paceBetterWrong)

/-- 'hairpinlaw03.PaceSums': WHATEVER THE INPUT: true; the input reads as it did. -/
def paceSumsSpec : ChangeSpec := { name := "paceSums", fn := fun _ => fun
  | [d1, d2, d3, d4, d5] => { results := [.lit (.bool true)], args := [d1, d2, d3, d4, d5] }
  | _ => none }
def paceSumsRow : OpenClaim := { program := "ytijcbfhlhgjedaadoor", sum := "c05ade79b7bd63f0fbefaf3497c59cf732bb7d4a1fdf4eb026196d1ca94a025f", func := "hairpin/hairpinlaw03.PaceSums", spec := "paceSums", inPlace := ["internal/abi.NoEscape", "internal/bytealg.MakeNoZero"], unfollowed := true, recurses := true, named := ["internal/strconv.uint64pow10", "math/bits.deBruijn32tab", "math/bits.deBruijn64tab"], apart := false, laid := [("math/bits.deBruijn32tab", laid_math_bits_deBruijn32tab), ("math/bits.deBruijn64tab", laid_math_bits_deBruijn64tab), ("internal/strconv.uint64pow10", laid_internal_strconv_uint64pow10)] }
def PaceSumsSaid : Prop := paceSumsRow.holds Tryd.pinned (OpenSpec.ofChange paceSumsSpec)

/-- ITS FALSE NEIGHBOUR: 'it returns false'. Refute it at one input. -/
def paceSumsWrong : ChangeSpec := { name := "paceSums", fn := fun _ => fun
  | [d1, d2, d3, d4, d5] => { results := [.lit (.bool false)], args := [d1, d2, d3, d4, d5] }
  | _ => none }
def PaceSumsWrongFalsely : Prop := paceSumsRow.holds Tryd.pinned (OpenSpec.ofChange paceSumsWrong)

/- THE SECOND FORM. 'bulk': how many values and letters a reading holds, each counted each time it is reached (what is shared counts as often as it is met; a slice's spare places count too). A statement '..UptoSaid' is the law's where the arguments, and the package variables that the reading takes, are together of bulk at most 1048576: NARROWER than '..Said'. Prove '..Said' where nothing that the law and all that it calls make is longer than what came in: it says more and counts as full. Else prove '..UptoSaid'. A law counts once. -/
mutual
def uptoBulk {H : Type} : DataW H → Nat
  | .lit (.string bytes) => bytes.length + 1
  | .lit _ => 1
  | .nil => 1
  | .ptr d => uptoBulk d + 1
  | .slice elems spare => uptoBulkAll elems + uptoBulkAll spare + 1
  | .agg parts => uptoBulkAll parts + 1
  | .iface _ d => uptoBulk d + 1
  | .map entries => uptoBulkEntries entries + 1
  | .held _ => 1
def uptoBulkAll {H : Type} : List (DataW H) → Nat
  | [] => 0
  | d :: r => uptoBulk d + uptoBulkAll r
def uptoBulkEntries {H : Type} : List (Lit × DataW H) → Nat
  | [] => 0
  | x :: r => uptoBulkEntry x + uptoBulkEntries r
def uptoBulkEntry {H : Type} : Lit × DataW H → Nat
  | (.string bytes, d) => bytes.length + uptoBulk d + 1
  | (_, d) => uptoBulk d + 1
 end
def uptoSmall : (H : Type) → List (DataW H) → Bool := fun _ ds => decide (uptoBulkAll ds ≤ 1048576)
def OpenSpec.upto (s : _root_.Go.ChangeSpec) : _root_.Go.OpenSpec := { _root_.Go.OpenSpec.ofChange s with cond := some uptoSmall }

/-- 'hairpinlaw03.PaceBetween', WHERE WHAT IT READS IS OF BULK AT MOST 1048576: true; the input reads as it did. -/
def paceBetweenUptoRow : OpenClaim := { program := "ytijcbfhlhgjedaadoor", sum := "c05ade79b7bd63f0fbefaf3497c59cf732bb7d4a1fdf4eb026196d1ca94a025f", func := "hairpin/hairpinlaw03.PaceBetween", spec := "paceBetween", inPlace := ["internal/abi.NoEscape", "internal/bytealg.MakeNoZero"], unfollowed := true, recurses := true, named := ["internal/strconv.uint64pow10", "math/bits.deBruijn32tab", "math/bits.deBruijn64tab"], apart := false, laid := [("math/bits.deBruijn32tab", laid_math_bits_deBruijn32tab), ("math/bits.deBruijn64tab", laid_math_bits_deBruijn64tab), ("internal/strconv.uint64pow10", laid_internal_strconv_uint64pow10)], narrowed := true }
def PaceBetweenUptoSaid : Prop := paceBetweenUptoRow.holds Tryd.pinned (OpenSpec.upto paceBetweenSpec)

/-- 'hairpinlaw03.PaceLasts', WHERE WHAT IT READS IS OF BULK AT MOST 1048576: true; the input reads as it did. -/
def paceLastsUptoRow : OpenClaim := { program := "ytijcbfhlhgjedaadoor", sum := "c05ade79b7bd63f0fbefaf3497c59cf732bb7d4a1fdf4eb026196d1ca94a025f", func := "hairpin/hairpinlaw03.PaceLasts", spec := "paceLasts", inPlace := ["internal/abi.NoEscape", "internal/bytealg.MakeNoZero"], unfollowed := true, recurses := true, named := ["internal/strconv.uint64pow10", "math/bits.deBruijn32tab", "math/bits.deBruijn64tab"], apart := false, laid := [("math/bits.deBruijn32tab", laid_math_bits_deBruijn32tab), ("math/bits.deBruijn64tab", laid_math_bits_deBruijn64tab), ("internal/strconv.uint64pow10", laid_internal_strconv_uint64pow10)], narrowed := true }
def PaceLastsUptoSaid : Prop := paceLastsUptoRow.holds Tryd.pinned (OpenSpec.upto paceLastsSpec)

/-- 'hairpinlaw03.PacePlans', WHERE WHAT IT READS IS OF BULK AT MOST 1048576: true; the input reads as it did. -/
def pacePlansUptoRow : OpenClaim := { program := "ytijcbfhlhgjedaadoor", sum := "c05ade79b7bd63f0fbefaf3497c59cf732bb7d4a1fdf4eb026196d1ca94a025f", func := "hairpin/hairpinlaw03.PacePlans", spec := "pacePlans", inPlace := ["internal/abi.NoEscape", "internal/bytealg.MakeNoZero"], unfollowed := true, recurses := true, named := ["internal/strconv.uint64pow10", "math/bits.deBruijn32tab", "math/bits.deBruijn64tab"], apart := false, laid := [("math/bits.deBruijn32tab", laid_math_bits_deBruijn32tab), ("math/bits.deBruijn64tab", laid_math_bits_deBruijn64tab), ("internal/strconv.uint64pow10", laid_internal_strconv_uint64pow10)], narrowed := true }
def PacePlansUptoSaid : Prop := pacePlansUptoRow.holds Tryd.pinned (OpenSpec.upto pacePlansSpec)

/-- 'hairpinlaw03.PaceFits', WHERE WHAT IT READS IS OF BULK AT MOST 1048576: true; the input reads as it did. -/
def paceFitsUptoRow : OpenClaim := { program := "ytijcbfhlhgjedaadoor", sum := "c05ade79b7bd63f0fbefaf3497c59cf732bb7d4a1fdf4eb026196d1ca94a025f", func := "hairpin/hairpinlaw03.PaceFits", spec := "paceFits", inPlace := ["internal/abi.NoEscape", "internal/bytealg.MakeNoZero"], unfollowed := true, recurses := true, named := ["internal/strconv.uint64pow10", "math/bits.deBruijn32tab", "math/bits.deBruijn64tab"], apart := false, laid := [("math/bits.deBruijn32tab", laid_math_bits_deBruijn32tab), ("math/bits.deBruijn64tab", laid_math_bits_deBruijn64tab), ("internal/strconv.uint64pow10", laid_internal_strconv_uint64pow10)], narrowed := true }
def PaceFitsUptoSaid : Prop := paceFitsUptoRow.holds Tryd.pinned (OpenSpec.upto paceFitsSpec)

/-- 'hairpinlaw03.PaceGood', WHERE WHAT IT READS IS OF BULK AT MOST 1048576: true; the input reads as it did. -/
def paceGoodUptoRow : OpenClaim := { program := "ytijcbfhlhgjedaadoor", sum := "c05ade79b7bd63f0fbefaf3497c59cf732bb7d4a1fdf4eb026196d1ca94a025f", func := "hairpin/hairpinlaw03.PaceGood", spec := "paceGood", inPlace := ["internal/abi.NoEscape", "internal/bytealg.MakeNoZero"], unfollowed := true, recurses := true, named := ["internal/strconv.uint64pow10", "math/bits.deBruijn32tab", "math/bits.deBruijn64tab"], apart := false, laid := [("math/bits.deBruijn32tab", laid_math_bits_deBruijn32tab), ("math/bits.deBruijn64tab", laid_math_bits_deBruijn64tab), ("internal/strconv.uint64pow10", laid_internal_strconv_uint64pow10)], narrowed := true }
def PaceGoodUptoSaid : Prop := paceGoodUptoRow.holds Tryd.pinned (OpenSpec.upto paceGoodSpec)

/-- 'hairpinlaw03.PaceLatest', WHERE WHAT IT READS IS OF BULK AT MOST 1048576: true; the input reads as it did. -/
def paceLatestUptoRow : OpenClaim := { program := "ytijcbfhlhgjedaadoor", sum := "c05ade79b7bd63f0fbefaf3497c59cf732bb7d4a1fdf4eb026196d1ca94a025f", func := "hairpin/hairpinlaw03.PaceLatest", spec := "paceLatest", inPlace := ["internal/abi.NoEscape", "internal/bytealg.MakeNoZero"], unfollowed := true, recurses := true, named := ["internal/strconv.uint64pow10", "math/bits.deBruijn32tab", "math/bits.deBruijn64tab"], apart := false, laid := [("math/bits.deBruijn32tab", laid_math_bits_deBruijn32tab), ("math/bits.deBruijn64tab", laid_math_bits_deBruijn64tab), ("internal/strconv.uint64pow10", laid_internal_strconv_uint64pow10)], narrowed := true }
def PaceLatestUptoSaid : Prop := paceLatestUptoRow.holds Tryd.pinned (OpenSpec.upto paceLatestSpec)

/-- 'hairpinlaw03.PaceSaid', WHERE WHAT IT READS IS OF BULK AT MOST 1048576: true; the input reads as it did. -/
def paceSaidUptoRow : OpenClaim := { program := "ytijcbfhlhgjedaadoor", sum := "c05ade79b7bd63f0fbefaf3497c59cf732bb7d4a1fdf4eb026196d1ca94a025f", func := "hairpin/hairpinlaw03.PaceSaid", spec := "paceSaid", inPlace := ["internal/abi.NoEscape", "internal/bytealg.MakeNoZero"], unfollowed := true, recurses := true, named := ["internal/strconv.uint64pow10", "math/bits.deBruijn32tab", "math/bits.deBruijn64tab"], apart := false, laid := [("math/bits.deBruijn32tab", laid_math_bits_deBruijn32tab), ("math/bits.deBruijn64tab", laid_math_bits_deBruijn64tab), ("internal/strconv.uint64pow10", laid_internal_strconv_uint64pow10)], narrowed := true }
def PaceSaidUptoSaid : Prop := paceSaidUptoRow.holds Tryd.pinned (OpenSpec.upto paceSaidSpec)

/-- 'hairpinlaw03.PaceNarrows', WHERE WHAT IT READS IS OF BULK AT MOST 1048576: true; the input reads as it did. -/
def paceNarrowsUptoRow : OpenClaim := { program := "ytijcbfhlhgjedaadoor", sum := "c05ade79b7bd63f0fbefaf3497c59cf732bb7d4a1fdf4eb026196d1ca94a025f", func := "hairpin/hairpinlaw03.PaceNarrows", spec := "paceNarrows", inPlace := ["internal/abi.NoEscape", "internal/bytealg.MakeNoZero"], unfollowed := true, recurses := true, named := ["internal/strconv.uint64pow10", "math/bits.deBruijn32tab", "math/bits.deBruijn64tab"], apart := false, laid := [("math/bits.deBruijn32tab", laid_math_bits_deBruijn32tab), ("math/bits.deBruijn64tab", laid_math_bits_deBruijn64tab), ("internal/strconv.uint64pow10", laid_internal_strconv_uint64pow10)], narrowed := true }
def PaceNarrowsUptoSaid : Prop := paceNarrowsUptoRow.holds Tryd.pinned (OpenSpec.upto paceNarrowsSpec)

/-- 'hairpinlaw03.PaceKeeps', WHERE WHAT IT READS IS OF BULK AT MOST 1048576: true; the input reads as it did. -/
def paceKeepsUptoRow : OpenClaim := { program := "ytijcbfhlhgjedaadoor", sum := "c05ade79b7bd63f0fbefaf3497c59cf732bb7d4a1fdf4eb026196d1ca94a025f", func := "hairpin/hairpinlaw03.PaceKeeps", spec := "paceKeeps", inPlace := ["internal/abi.NoEscape", "internal/bytealg.MakeNoZero"], unfollowed := true, recurses := true, named := ["internal/strconv.uint64pow10", "math/bits.deBruijn32tab", "math/bits.deBruijn64tab"], apart := false, laid := [("math/bits.deBruijn32tab", laid_math_bits_deBruijn32tab), ("math/bits.deBruijn64tab", laid_math_bits_deBruijn64tab), ("internal/strconv.uint64pow10", laid_internal_strconv_uint64pow10)], narrowed := true }
def PaceKeepsUptoSaid : Prop := paceKeepsUptoRow.holds Tryd.pinned (OpenSpec.upto paceKeepsSpec)

/-- 'hairpinlaw03.PaceHeard', WHERE WHAT IT READS IS OF BULK AT MOST 1048576: true; the input reads as it did. -/
def paceHeardUptoRow : OpenClaim := { program := "ytijcbfhlhgjedaadoor", sum := "c05ade79b7bd63f0fbefaf3497c59cf732bb7d4a1fdf4eb026196d1ca94a025f", func := "hairpin/hairpinlaw03.PaceHeard", spec := "paceHeard", inPlace := ["internal/abi.NoEscape", "internal/bytealg.MakeNoZero"], unfollowed := true, recurses := true, named := ["internal/strconv.uint64pow10", "math/bits.deBruijn32tab", "math/bits.deBruijn64tab"], apart := false, laid := [("math/bits.deBruijn32tab", laid_math_bits_deBruijn32tab), ("math/bits.deBruijn64tab", laid_math_bits_deBruijn64tab), ("internal/strconv.uint64pow10", laid_internal_strconv_uint64pow10)], narrowed := true }
def PaceHeardUptoSaid : Prop := paceHeardUptoRow.holds Tryd.pinned (OpenSpec.upto paceHeardSpec)

/-- 'hairpinlaw03.PaceResumes', WHERE WHAT IT READS IS OF BULK AT MOST 1048576: true; the input reads as it did. -/
def paceResumesUptoRow : OpenClaim := { program := "ytijcbfhlhgjedaadoor", sum := "c05ade79b7bd63f0fbefaf3497c59cf732bb7d4a1fdf4eb026196d1ca94a025f", func := "hairpin/hairpinlaw03.PaceResumes", spec := "paceResumes", inPlace := ["internal/abi.NoEscape", "internal/bytealg.MakeNoZero"], unfollowed := true, recurses := true, named := ["internal/strconv.uint64pow10", "math/bits.deBruijn32tab", "math/bits.deBruijn64tab"], apart := false, laid := [("math/bits.deBruijn32tab", laid_math_bits_deBruijn32tab), ("math/bits.deBruijn64tab", laid_math_bits_deBruijn64tab), ("internal/strconv.uint64pow10", laid_internal_strconv_uint64pow10)], narrowed := true }
def PaceResumesUptoSaid : Prop := paceResumesUptoRow.holds Tryd.pinned (OpenSpec.upto paceResumesSpec)

/-- 'hairpinlaw03.PaceBetter', WHERE WHAT IT READS IS OF BULK AT MOST 1048576: true; the input reads as it did. -/
def paceBetterUptoRow : OpenClaim := { program := "ytijcbfhlhgjedaadoor", sum := "c05ade79b7bd63f0fbefaf3497c59cf732bb7d4a1fdf4eb026196d1ca94a025f", func := "hairpin/hairpinlaw03.PaceBetter", spec := "paceBetter", inPlace := ["internal/abi.NoEscape", "internal/bytealg.MakeNoZero"], unfollowed := true, recurses := true, named := ["internal/strconv.uint64pow10", "math/bits.deBruijn32tab", "math/bits.deBruijn64tab"], apart := false, laid := [("math/bits.deBruijn32tab", laid_math_bits_deBruijn32tab), ("math/bits.deBruijn64tab", laid_math_bits_deBruijn64tab), ("internal/strconv.uint64pow10", laid_internal_strconv_uint64pow10)], narrowed := true }
def PaceBetterUptoSaid : Prop := paceBetterUptoRow.holds Tryd.pinned (OpenSpec.upto paceBetterSpec)

/-- 'hairpinlaw03.PaceSums', WHERE WHAT IT READS IS OF BULK AT MOST 1048576: true; the input reads as it did. -/
def paceSumsUptoRow : OpenClaim := { program := "ytijcbfhlhgjedaadoor", sum := "c05ade79b7bd63f0fbefaf3497c59cf732bb7d4a1fdf4eb026196d1ca94a025f", func := "hairpin/hairpinlaw03.PaceSums", spec := "paceSums", inPlace := ["internal/abi.NoEscape", "internal/bytealg.MakeNoZero"], unfollowed := true, recurses := true, named := ["internal/strconv.uint64pow10", "math/bits.deBruijn32tab", "math/bits.deBruijn64tab"], apart := false, laid := [("math/bits.deBruijn32tab", laid_math_bits_deBruijn32tab), ("math/bits.deBruijn64tab", laid_math_bits_deBruijn64tab), ("internal/strconv.uint64pow10", laid_internal_strconv_uint64pow10)], narrowed := true }
def PaceSumsUptoSaid : Prop := paceSumsUptoRow.holds Tryd.pinned (OpenSpec.upto paceSumsSpec)

end Rows
end Go.Proofs.YtijcbfhlhgjedaaDoor
