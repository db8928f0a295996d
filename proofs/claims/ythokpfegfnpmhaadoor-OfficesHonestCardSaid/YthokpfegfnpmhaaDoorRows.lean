/-
  NARROWER THAN 'FOR EVERY INPUT', by the rows' own cells (each row's printed sentence says how): ChainAddSpec: laid · ChainBuilt: laid · ChainEqual: laid · ChainChanged: laid · ChainParts: laid · OfficesSpec: laid · OfficesFindSpec: laid · OfficesHonest: laid · OfficesPairs: laid · OfficesFaces: laid.
  DERIVED. THE GIVEN ROWS OF THIS SEAT. 10 by the template 'for every input the law returns true; each argument reads behind the call as it read before'; 0 by the template 'total and deterministic' (their statements: YthokpfegfnpmhaaDoorTotals.lean).
  GIVEN WITH THE SEED: the statements are not yours to turn. If you find one false, say at which input.
  Laid BY PROGRAM, IN A SANDBOX (cutbox-rows.mjs): the forced cells as the released guide's own fill.sh prints them over the translation c76d7425f9bdb032… (all of the seat's roots in one cut). By AI agents, Wed Nov 11 2026. No macro, syntax, notation, axiom, sorry.
-/
import Derived.Test.YthokpfegfnpmhaaDoorChecked
import GoSem.Claim
import GoSem.ClaimJoined
import GoSem.ClaimMapViews
import Derived.JoinedTies
import Derived.KernelRfl
namespace Go.Proofs.YthokpfegfnpmhaaDoor
/- THE CELL 'sum', in the pinned program and in every row, IS THE sha256 OF THE DUMP (.gsa) THAT YthokpfegfnpmhaaDoorProg.lean LOADS. Nothing in Lean hashes anything: it is a label: what it is worth is what the hold of that sum in a sandbox is worth. -/
noncomputable def Tryd.pinned : Pinned := { name := "ythokpfegfnpmhaadoor", sum := "c76d7425f9bdb032e35d13bc77e53ee1af99404a98e4c22db953d696d89d0e37", checked := Tryd.checked }
namespace Rows
def none {H : Type} : Left H := { results := [], args := [] }

/- WHAT THE LISTED PACKAGE-LEVEL VARIABLES READ AS WHEN THE CALL BEGINS. Each datum BY PROGRAM (the guide's laid-datum.mjs) off the statement by which the dump's own 'gosem.cut.vars' lays the variable. In a bare row this is a premise. The card (YthokpfegfnpmhaaDoorCards.lean) ties it to the program's text. -/
def laid_fasti_digest_start {H : Type} : DataW H := .agg [.lit (.int .u32 1779033703), .lit (.int .u32 3144134277), .lit (.int .u32 1013904242), .lit (.int .u32 2773480762), .lit (.int .u32 1359893119), .lit (.int .u32 2600822924), .lit (.int .u32 528734635), .lit (.int .u32 1541459225)]
def laid_fasti_digest_numbers {H : Type} : DataW H := .agg [.lit (.int .u32 1116352408), .lit (.int .u32 1899447441), .lit (.int .u32 3049323471), .lit (.int .u32 3921009573), .lit (.int .u32 961987163), .lit (.int .u32 1508970993), .lit (.int .u32 2453635748), .lit (.int .u32 2870763221), .lit (.int .u32 3624381080), .lit (.int .u32 310598401), .lit (.int .u32 607225278), .lit (.int .u32 1426881987), .lit (.int .u32 1925078388), .lit (.int .u32 2162078206), .lit (.int .u32 2614888103), .lit (.int .u32 3248222580), .lit (.int .u32 3835390401), .lit (.int .u32 4022224774), .lit (.int .u32 264347078), .lit (.int .u32 604807628), .lit (.int .u32 770255983), .lit (.int .u32 1249150122), .lit (.int .u32 1555081692), .lit (.int .u32 1996064986), .lit (.int .u32 2554220882), .lit (.int .u32 2821834349), .lit (.int .u32 2952996808), .lit (.int .u32 3210313671), .lit (.int .u32 3336571891), .lit (.int .u32 3584528711), .lit (.int .u32 113926993), .lit (.int .u32 338241895), .lit (.int .u32 666307205), .lit (.int .u32 773529912), .lit (.int .u32 1294757372), .lit (.int .u32 1396182291), .lit (.int .u32 1695183700), .lit (.int .u32 1986661051), .lit (.int .u32 2177026350), .lit (.int .u32 2456956037), .lit (.int .u32 2730485921), .lit (.int .u32 2820302411), .lit (.int .u32 3259730800), .lit (.int .u32 3345764771), .lit (.int .u32 3516065817), .lit (.int .u32 3600352804), .lit (.int .u32 4094571909), .lit (.int .u32 275423344), .lit (.int .u32 430227734), .lit (.int .u32 506948616), .lit (.int .u32 659060556), .lit (.int .u32 883997877), .lit (.int .u32 958139571), .lit (.int .u32 1322822218), .lit (.int .u32 1537002063), .lit (.int .u32 1747873779), .lit (.int .u32 1955562222), .lit (.int .u32 2024104815), .lit (.int .u32 2227730452), .lit (.int .u32 2361852424), .lit (.int .u32 2428436474), .lit (.int .u32 2756734187), .lit (.int .u32 3204031479), .lit (.int .u32 3329325298)]

/-- 'fastilaw08.ChainAddSpec': WHATEVER THE INPUT: true; the input reads as it did. -/
def chainAddSpecSpec : ChangeSpec := { name := "chainAddSpec", fn := fun _ => fun
  | [d1, d2, d3, d4] => { results := [.lit (.bool true)], args := [d1, d2, d3, d4] }
  | _ => none }
def chainAddSpecRow : OpenClaim := { program := "ythokpfegfnpmhaadoor", sum := "c76d7425f9bdb032e35d13bc77e53ee1af99404a98e4c22db953d696d89d0e37", func := "fasti/fastilaw08.ChainAddSpec", spec := "chainAddSpec", unfollowed := true, recurses := true, named := ["fasti/digest.start", "fasti/digest.numbers"], apart := false, laid := [("fasti/digest.start", laid_fasti_digest_start), ("fasti/digest.numbers", laid_fasti_digest_numbers)] }
def ChainAddSpecSaid : Prop := chainAddSpecRow.holds Tryd.pinned (OpenSpec.ofChange chainAddSpecSpec)

/-- ITS FALSE NEIGHBOUR: 'it returns false'. Refute it at one input. -/
def chainAddSpecWrong : ChangeSpec := { name := "chainAddSpec", fn := fun _ => fun
  | [d1, d2, d3, d4] => { results := [.lit (.bool false)], args := [d1, d2, d3, d4] }
  | _ => none }
def ChainAddSpecWrongFalsely : Prop := chainAddSpecRow.holds Tryd.pinned (OpenSpec.ofChange chainAddSpecWrong)

/-- 'fastilaw08.ChainBuilt': WHATEVER THE INPUT: true; the input reads as it did. -/
def chainBuiltSpec : ChangeSpec := { name := "chainBuilt", fn := fun _ => fun
  | [d1, d2] => { results := [.lit (.bool true)], args := [d1, d2] }
  | _ => none }
def chainBuiltRow : OpenClaim := { program := "ythokpfegfnpmhaadoor", sum := "c76d7425f9bdb032e35d13bc77e53ee1af99404a98e4c22db953d696d89d0e37", func := "fasti/fastilaw08.ChainBuilt", spec := "chainBuilt", unfollowed := true, recurses := true, named := ["fasti/digest.start", "fasti/digest.numbers"], apart := false, laid := [("fasti/digest.start", laid_fasti_digest_start), ("fasti/digest.numbers", laid_fasti_digest_numbers)] }
def ChainBuiltSaid : Prop := chainBuiltRow.holds Tryd.pinned (OpenSpec.ofChange chainBuiltSpec)

/-- ITS FALSE NEIGHBOUR: 'it returns false'. Refute it at one input. -/
def chainBuiltWrong : ChangeSpec := { name := "chainBuilt", fn := fun _ => fun
  | [d1, d2] => { results := [.lit (.bool false)], args := [d1, d2] }
  | _ => none }
def ChainBuiltWrongFalsely : Prop := chainBuiltRow.holds Tryd.pinned (OpenSpec.ofChange chainBuiltWrong)

/-- 'fastilaw08.ChainEqual': WHATEVER THE INPUT: true; the input reads as it did. -/
def chainEqualSpec : ChangeSpec := { name := "chainEqual", fn := fun _ => fun
  | [d1, d2] => { results := [.lit (.bool true)], args := [d1, d2] }
  | _ => none }
def chainEqualRow : OpenClaim := { program := "ythokpfegfnpmhaadoor", sum := "c76d7425f9bdb032e35d13bc77e53ee1af99404a98e4c22db953d696d89d0e37", func := "fasti/fastilaw08.ChainEqual", spec := "chainEqual", unfollowed := true, recurses := true, named := ["fasti/digest.start", "fasti/digest.numbers"], apart := false, laid := [("fasti/digest.start", laid_fasti_digest_start), ("fasti/digest.numbers", laid_fasti_digest_numbers)] }
def ChainEqualSaid : Prop := chainEqualRow.holds Tryd.pinned (OpenSpec.ofChange chainEqualSpec)

/-- ITS FALSE NEIGHBOUR: 'it returns false'. Refute it at one input. -/
def chainEqualWrong : ChangeSpec := { name := "chainEqual", fn := fun _ => fun
  | [d1, d2] => { results := [.lit (.bool false)], args := [d1, d2] }
  | _ => none }
def ChainEqualWrongFalsely : Prop := chainEqualRow.holds Tryd.pinned (OpenSpec.ofChange chainEqualWrong)

/-- 'fastilaw08.ChainChanged': WHATEVER THE INPUT: true; the input reads as it did. -/
def chainChangedSpec : ChangeSpec := { name := "chainChanged", fn := fun _ => fun
  | [d1, d2, d3] => { results := [.lit (.bool true)], args := [d1, d2, d3] }
  | _ => none }
def chainChangedRow : OpenClaim := { program := "ythokpfegfnpmhaadoor", sum := "c76d7425f9bdb032e35d13bc77e53ee1af99404a98e4c22db953d696d89d0e37", func := "fasti/fastilaw08.ChainChanged", spec := "chainChanged", unfollowed := true, recurses := true, named := ["fasti/digest.start", "fasti/digest.numbers"], apart := false, laid := [("fasti/digest.start", laid_fasti_digest_start), ("fasti/digest.numbers", laid_fasti_digest_numbers)] }
def ChainChangedSaid : Prop := chainChangedRow.holds Tryd.pinned (OpenSpec.ofChange chainChangedSpec)

/-- ITS FALSE NEIGHBOUR: 'it returns false'. Refute it at one input. -/
def chainChangedWrong : ChangeSpec := { name := "chainChanged", fn := fun _ => fun
  | [d1, d2, d3] => { results := [.lit (.bool false)], args := [d1, d2, d3] }
  | _ => none }
def ChainChangedWrongFalsely : Prop := chainChangedRow.holds Tryd.pinned (OpenSpec.ofChange chainChangedWrong)

/-- 'fastilaw08.ChainParts': WHATEVER THE INPUT: true; the input reads as it did. -/
def chainPartsSpec : ChangeSpec := { name := "chainParts", fn := fun _ => fun
  | [d1, d2] => { results := [.lit (.bool true)], args := [d1, d2] }
  | _ => none }
def chainPartsRow : OpenClaim := { program := "ythokpfegfnpmhaadoor", sum := "c76d7425f9bdb032e35d13bc77e53ee1af99404a98e4c22db953d696d89d0e37", func := "fasti/fastilaw08.ChainParts", spec := "chainParts", unfollowed := true, recurses := true, named := ["fasti/digest.start", "fasti/digest.numbers"], apart := false, laid := [("fasti/digest.start", laid_fasti_digest_start), ("fasti/digest.numbers", laid_fasti_digest_numbers)] }
def ChainPartsSaid : Prop := chainPartsRow.holds Tryd.pinned (OpenSpec.ofChange chainPartsSpec)

/-- ITS FALSE NEIGHBOUR: 'it returns false'. Refute it at one input. -/
def chainPartsWrong : ChangeSpec := { name := "chainParts", fn := fun _ => fun
  | [d1, d2] => { results := [.lit (.bool false)], args := [d1, d2] }
  | _ => none }
def ChainPartsWrongFalsely : Prop := chainPartsRow.holds Tryd.pinned (OpenSpec.ofChange chainPartsWrong)

/-- 'fastilaw56.OfficesSpec': WHATEVER THE INPUT: true; the input reads as it did. -/
def officesSpecSpec : ChangeSpec := { name := "officesSpec", fn := fun _ => fun
  | [d1, d2, d3, d4] => { results := [.lit (.bool true)], args := [d1, d2, d3, d4] }
  | _ => none }
def officesSpecRow : OpenClaim := { program := "ythokpfegfnpmhaadoor", sum := "c76d7425f9bdb032e35d13bc77e53ee1af99404a98e4c22db953d696d89d0e37", func := "fasti/fastilaw56.OfficesSpec", spec := "officesSpec", unfollowed := true, recurses := true, named := ["fasti/digest.start", "fasti/digest.numbers"], apart := false, laid := [("fasti/digest.start", laid_fasti_digest_start), ("fasti/digest.numbers", laid_fasti_digest_numbers)] }
def OfficesSpecSaid : Prop := officesSpecRow.holds Tryd.pinned (OpenSpec.ofChange officesSpecSpec)

/-- ITS FALSE NEIGHBOUR: 'it returns false'. Refute it at one input. -/
def officesSpecWrong : ChangeSpec := { name := "officesSpec", fn := fun _ => fun
  | [d1, d2, d3, d4] => { results := [.lit (.bool false)], args := [d1, d2, d3, d4] }
  | _ => none }
def OfficesSpecWrongFalsely : Prop := officesSpecRow.holds Tryd.pinned (OpenSpec.ofChange officesSpecWrong)

/-- 'fastilaw56.OfficesFindSpec': WHATEVER THE INPUT: true; the input reads as it did. -/
def officesFindSpecSpec : ChangeSpec := { name := "officesFindSpec", fn := fun _ => fun
  | [d1, d2] => { results := [.lit (.bool true)], args := [d1, d2] }
  | _ => none }
def officesFindSpecRow : OpenClaim := { program := "ythokpfegfnpmhaadoor", sum := "c76d7425f9bdb032e35d13bc77e53ee1af99404a98e4c22db953d696d89d0e37", func := "fasti/fastilaw56.OfficesFindSpec", spec := "officesFindSpec", unfollowed := true, recurses := true, named := ["fasti/digest.start", "fasti/digest.numbers"], apart := false, laid := [("fasti/digest.start", laid_fasti_digest_start), ("fasti/digest.numbers", laid_fasti_digest_numbers)] }
def OfficesFindSpecSaid : Prop := officesFindSpecRow.holds Tryd.pinned (OpenSpec.ofChange officesFindSpecSpec)

/-- ITS FALSE NEIGHBOUR: 'it returns false'. Refute it at one input. -/
def officesFindSpecWrong : ChangeSpec := { name := "officesFindSpec", fn := fun _ => fun
  | [d1, d2] => { results := [.lit (.bool false)], args := [d1, d2] }
  | _ => none }
def OfficesFindSpecWrongFalsely : Prop := officesFindSpecRow.holds Tryd.pinned (OpenSpec.ofChange officesFindSpecWrong)

/-- 'fastilaw56.OfficesHonest': WHATEVER THE INPUT: true; the input reads as it did. -/
def officesHonestSpec : ChangeSpec := { name := "officesHonest", fn := fun _ => fun
  | [d1, d2, d3, d4] => { results := [.lit (.bool true)], args := [d1, d2, d3, d4] }
  | _ => none }
def officesHonestRow : OpenClaim := { program := "ythokpfegfnpmhaadoor", sum := "c76d7425f9bdb032e35d13bc77e53ee1af99404a98e4c22db953d696d89d0e37", func := "fasti/fastilaw56.OfficesHonest", spec := "officesHonest", unfollowed := true, recurses := true, named := ["fasti/digest.start", "fasti/digest.numbers"], apart := false, laid := [("fasti/digest.start", laid_fasti_digest_start), ("fasti/digest.numbers", laid_fasti_digest_numbers)] }
def OfficesHonestSaid : Prop := officesHonestRow.holds Tryd.pinned (OpenSpec.ofChange officesHonestSpec)

/-- ITS FALSE NEIGHBOUR: 'it returns false'. Refute it at one input. -/
def officesHonestWrong : ChangeSpec := { name := "officesHonest", fn := fun _ => fun
  | [d1, d2, d3, d4] => { results := [.lit (.bool false)], args := [d1, d2, d3, d4] }
  | _ => none }
def OfficesHonestWrongFalsely : Prop := officesHonestRow.holds Tryd.pinned (OpenSpec.ofChange officesHonestWrong)

/-- 'fastilaw56.OfficesPairs': WHATEVER THE INPUT: true; the input reads as it did. -/
def officesPairsSpec : ChangeSpec := { name := "officesPairs", fn := fun _ => fun
  | [d1, d2, d3] => { results := [.lit (.bool true)], args := [d1, d2, d3] }
  | _ => none }
def officesPairsRow : OpenClaim := { program := "ythokpfegfnpmhaadoor", sum := "c76d7425f9bdb032e35d13bc77e53ee1af99404a98e4c22db953d696d89d0e37", func := "fasti/fastilaw56.OfficesPairs", spec := "officesPairs", unfollowed := true, recurses := true, named := ["fasti/digest.start", "fasti/digest.numbers"], apart := false, laid := [("fasti/digest.start", laid_fasti_digest_start), ("fasti/digest.numbers", laid_fasti_digest_numbers)] }
def OfficesPairsSaid : Prop := officesPairsRow.holds Tryd.pinned (OpenSpec.ofChange officesPairsSpec)

/-- ITS FALSE NEIGHBOUR: 'it returns false'. Refute it at one input. -/
def officesPairsWrong : ChangeSpec := { name := "officesPairs", fn := fun _ => fun
  | [d1, d2, d3] => { results := [.lit (.bool false)], args := [d1, d2, d3] }
  | _ => none }
def OfficesPairsWrongFalsely : Prop := officesPairsRow.holds Tryd.pinned (OpenSpec.ofChange officesPairsWrong)

/-- 'fastilaw56.OfficesFaces': WHATEVER THE INPUT: true; the input reads as it did. -/
def officesFacesSpec : ChangeSpec := { name := "officesFaces", fn := fun _ => fun
  | [d1, d2, d3] => { results := [.lit (.bool true)], args := [d1, d2, d3] }
  | _ => none }
def officesFacesRow : OpenClaim := { program := "ythokpfegfnpmhaadoor", sum := "c76d7425f9bdb032e35d13bc77e53ee1af99404a98e4c22db953d696d89d0e37", func := "fasti/fastilaw56.OfficesFaces", spec := "officesFaces", unfollowed := true, recurses := true, named := ["fasti/digest.start", "fasti/digest.numbers"], apart := false, laid := [("fasti/digest.start", laid_fasti_digest_start), ("fasti/digest.numbers", laid_fasti_digest_numbers)] }
def OfficesFacesSaid : Prop := officesFacesRow.holds Tryd.pinned (OpenSpec.ofChange officesFacesSpec)

/-- ITS FALSE NEIGHBOUR: 'it returns false'. Refute it at one input. -/
def officesFacesWrong : ChangeSpec := { name := "officesFaces", fn := fun _ => fun
  | [d1, d2, d3] => { results := [.lit (.bool false)], args := [d1, d2, d3] }
  | _ => none }
def OfficesFacesWrongFalsely : Prop := officesFacesRow.holds Tryd.pinned (OpenSpec.ofChange officesFacesWrong)

/- THE SECOND FORM. 'bulk': how many values and letters a reading holds, each counted each time it is reached (what is shared counts as often as it is met; a slice's spare places count too). A statement '..UptoSaid' is the law's where the arguments, and the package variables that the reading takes, are together of bulk at most 1048576: NARROWER than '..Said'. Prove '..Said' where nothing that the law and all that it calls make is longer than what came in: it says more and counts as full. Else prove '..UptoSaid'. A law counts once. -/
mutual
def uptoBulk {H : Type} : DataW H → Nat
  | .lit (.string bytes) => bytes.length + 1
  | .lit _ => 1
  | .nil => 1
  | .ptr d => uptoBulk d + 1
  | .slice elems spare => uptoBulkAll elems + uptoBulkAll spare + 1
  | .agg parts => uptoBulkAll parts + 1
  | .iface _ d => uptoBulk d + 1
  | .map entries => uptoBulkEntries entries + 1
  | .held _ => 1
def uptoBulkAll {H : Type} : List (DataW H) → Nat
  | [] => 0
  | d :: r => uptoBulk d + uptoBulkAll r
def uptoBulkEntries {H : Type} : List (Lit × DataW H) → Nat
  | [] => 0
  | x :: r => uptoBulkEntry x + uptoBulkEntries r
def uptoBulkEntry {H : Type} : Lit × DataW H → Nat
  | (.string bytes, d) => bytes.length + uptoBulk d + 1
  | (_, d) => uptoBulk d + 1
 end
def uptoSmall : (H : Type) → List (DataW H) → Bool := fun _ ds => decide (uptoBulkAll ds ≤ 1048576)
def OpenSpec.upto (s : _root_.Go.ChangeSpec) : _root_.Go.OpenSpec := { _root_.Go.OpenSpec.ofChange s with cond := some uptoSmall }

/-- 'fastilaw08.ChainAddSpec', WHERE WHAT IT READS IS OF BULK AT MOST 1048576: true; the input reads as it did. -/
def chainAddSpecUptoRow : OpenClaim := { program := "ythokpfegfnpmhaadoor", sum := "c76d7425f9bdb032e35d13bc77e53ee1af99404a98e4c22db953d696d89d0e37", func := "fasti/fastilaw08.ChainAddSpec", spec := "chainAddSpec", unfollowed := true, recurses := true, named := ["fasti/digest.start", "fasti/digest.numbers"], apart := false, laid := [("fasti/digest.start", laid_fasti_digest_start), ("fasti/digest.numbers", laid_fasti_digest_numbers)], narrowed := true }
def ChainAddSpecUptoSaid : Prop := chainAddSpecUptoRow.holds Tryd.pinned (OpenSpec.upto chainAddSpecSpec)

/-- 'fastilaw08.ChainBuilt', WHERE WHAT IT READS IS OF BULK AT MOST 1048576: true; the input reads as it did. -/
def chainBuiltUptoRow : OpenClaim := { program := "ythokpfegfnpmhaadoor", sum := "c76d7425f9bdb032e35d13bc77e53ee1af99404a98e4c22db953d696d89d0e37", func := "fasti/fastilaw08.ChainBuilt", spec := "chainBuilt", unfollowed := true, recurses := true, named := ["fasti/digest.start", "fasti/digest.numbers"], apart := false, laid := [("fasti/digest.start", laid_fasti_digest_start), ("fasti/digest.numbers", laid_fasti_digest_numbers)], narrowed := true }
def ChainBuiltUptoSaid : Prop := chainBuiltUptoRow.holds Tryd.pinned (OpenSpec.upto chainBuiltSpec)

/-- 'fastilaw08.ChainEqual', WHERE WHAT IT READS IS OF BULK AT MOST 1048576: true; the input reads as it did. -/
def chainEqualUptoRow : OpenClaim := { program := "ythokpfegfnpmhaadoor", sum := "c76d7425f9bdb032e35d13bc77e53ee1af99404a98e4c22db953d696d89d0e37", func := "fasti/fastilaw08.ChainEqual", spec := "chainEqual", unfollowed := true, recurses := true, named := ["fasti/digest.start", "fasti/digest.numbers"], apart := false, laid := [("fasti/digest.start", laid_fasti_digest_start), ("fasti/digest.numbers", laid_fasti_digest_numbers)], narrowed := true }
def ChainEqualUptoSaid : Prop := chainEqualUptoRow.holds Tryd.pinned (OpenSpec.upto chainEqualSpec)

/-- 'fastilaw08.ChainChanged', WHERE WHAT IT READS IS OF BULK AT MOST 1048576: true; the input reads as it did. -/
def chainChangedUptoRow : OpenClaim := { program := "ythokpfegfnpmhaadoor", sum := "c76d7425f9bdb032e35d13bc77e53ee1af99404a98e4c22db953d696d89d0e37", func := "fasti/fastilaw08.ChainChanged", spec := "chainChanged", unfollowed := true, recurses := true, named := ["fasti/digest.start", "fasti/digest.numbers"], apart := false, laid := [("fasti/digest.start", laid_fasti_digest_start), ("fasti/digest.numbers", laid_fasti_digest_numbers)], narrowed := true }
def ChainChangedUptoSaid : Prop := chainChangedUptoRow.holds Tryd.pinned (OpenSpec.upto chainChangedSpec)

/-- 'fastilaw08.ChainParts', WHERE WHAT IT READS IS OF BULK AT MOST 1048576: true; the input reads as it did. -/
def chainPartsUptoRow : OpenClaim := { program := "ythokpfegfnpmhaadoor", sum := "c76d7425f9bdb032e35d13bc77e53ee1af99404a98e4c22db953d696d89d0e37", func := "fasti/fastilaw08.ChainParts", spec := "chainParts", unfollowed := true, recurses := true, named := ["fasti/digest.start", "fasti/digest.numbers"], apart := false, laid := [("fasti/digest.start", laid_fasti_digest_start), ("fasti/digest.numbers", laid_fasti_digest_numbers)], narrowed := true }
def ChainPartsUptoSaid : Prop := chainPartsUptoRow.holds Tryd.pinned (OpenSpec.upto chainPartsSpec)

/-- 'fastilaw56.OfficesSpec', WHERE WHAT IT READS IS OF BULK AT MOST 1048576: true; the input reads as it did. -/
def officesSpecUptoRow : OpenClaim := { program := "ythokpfegfnpmhaadoor", sum := "c76d7425f9bdb032e35d13bc77e53ee1af99404a98e4c22db953d696d89d0e37", func := "fasti/fastilaw56.OfficesSpec", spec := "officesSpec", unfollowed := true, recurses := true, named := ["fasti/digest.start", "fasti/digest.numbers"], apart := false, laid := [("fasti/digest.start", laid_fasti_digest_start), ("fasti/digest.numbers", laid_fasti_digest_numbers)], narrowed := true }
def OfficesSpecUptoSaid : Prop := officesSpecUptoRow.holds Tryd.pinned (OpenSpec.upto officesSpecSpec)

/-- 'fastilaw56.OfficesFindSpec', WHERE WHAT IT READS IS OF BULK AT MOST 1048576: true; the input reads as it did. -/
def officesFindSpecUptoRow : OpenClaim := { program := "ythokpfegfnpmhaadoor", sum := "c76d7425f9bdb032e35d13bc77e53ee1af99404a98e4c22db953d696d89d0e37", func := "fasti/fastilaw56.OfficesFindSpec", spec := "officesFindSpec", unfollowed := true, recurses := true, named := ["fasti/digest.start", "fasti/digest.numbers"], apart := false, laid := [("fasti/digest.start", laid_fasti_digest_start), ("fasti/digest.numbers", laid_fasti_digest_numbers)], narrowed := true }
def OfficesFindSpecUptoSaid : Prop := officesFindSpecUptoRow.holds Tryd.pinned (OpenSpec.upto officesFindSpecSpec)

/-- 'fastilaw56.OfficesHonest', WHERE WHAT IT READS IS OF BULK AT MOST 1048576: true; the input reads as it did. -/
def officesHonestUptoRow : OpenClaim := { program := "ythokpfegfnpmhaadoor", sum := "c76d7425f9bdb032e35d13bc77e53ee1af99404a98e4c22db953d696d89d0e37", func := "fasti/fastilaw56.OfficesHonest", spec := "officesHonest", unfollowed := true, recurses := true, named := ["fasti/digest.start", "fasti/digest.numbers"], apart := false, laid := [("fasti/digest.start", laid_fasti_digest_start), ("fasti/digest.numbers", laid_fasti_digest_numbers)], narrowed := true }
def OfficesHonestUptoSaid : Prop := officesHonestUptoRow.holds Tryd.pinned (OpenSpec.upto officesHonestSpec)

/-- 'fastilaw56.OfficesPairs', WHERE WHAT IT READS IS OF BULK AT MOST 1048576: true; the input reads as it did. -/
def officesPairsUptoRow : OpenClaim := { program := "ythokpfegfnpmhaadoor", sum := "c76d7425f9bdb032e35d13bc77e53ee1af99404a98e4c22db953d696d89d0e37", func := "fasti/fastilaw56.OfficesPairs", spec := "officesPairs", unfollowed := true, recurses := true, named := ["fasti/digest.start", "fasti/digest.numbers"], apart := false, laid := [("fasti/digest.start", laid_fasti_digest_start), ("fasti/digest.numbers", laid_fasti_digest_numbers)], narrowed := true }
def OfficesPairsUptoSaid : Prop := officesPairsUptoRow.holds Tryd.pinned (OpenSpec.upto officesPairsSpec)

/-- 'fastilaw56.OfficesFaces', WHERE WHAT IT READS IS OF BULK AT MOST 1048576: true; the input reads as it did. -/
def officesFacesUptoRow : OpenClaim := { program := "ythokpfegfnpmhaadoor", sum := "c76d7425f9bdb032e35d13bc77e53ee1af99404a98e4c22db953d696d89d0e37", func := "fasti/fastilaw56.OfficesFaces", spec := "officesFaces", unfollowed := true, recurses := true, named := ["fasti/digest.start", "fasti/digest.numbers"], apart := false, laid := [("fasti/digest.start", laid_fasti_digest_start), ("fasti/digest.numbers", laid_fasti_digest_numbers)], narrowed := true }
def OfficesFacesUptoSaid : Prop := officesFacesUptoRow.holds Tryd.pinned (OpenSpec.upto officesFacesSpec)

end Rows
end Go.Proofs.YthokpfegfnpmhaaDoor
