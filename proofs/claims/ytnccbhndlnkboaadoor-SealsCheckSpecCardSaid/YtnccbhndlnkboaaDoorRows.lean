/-
  NARROWER THAN 'FOR EVERY INPUT', by the rows' own cells (each row's printed sentence says how): AccuseWait: laid · SealsSpec: laid · SealsCheckSpec: laid · SealsDays: laid · AccuseSpec: laid · AccuseHonest: laid · AccuseOthers: laid.
  DERIVED. THE GIVEN ROWS OF THIS SEAT. 7 by the template 'for every input the law returns true; each argument reads behind the call as it read before'; 0 by the template 'total and deterministic' (their statements: YtnccbhndlnkboaaDoorTotals.lean).
  GIVEN WITH THE SEED: the statements are not yours to turn. If you find one false, say at which input.
  Laid BY PROGRAM, IN A SANDBOX (cutbox-rows.mjs): the forced cells as the released guide's own fill.sh prints them over the translation 708be9c4f02737cc… (all of the seat's roots in one cut). By AI agents, Wed Nov 11 2026. No macro, syntax, notation, axiom, sorry.
-/
import Derived.Test.YtnccbhndlnkboaaDoorChecked
import GoSem.Claim
import GoSem.ClaimJoined
import GoSem.ClaimMapViews
import Derived.JoinedTies
import Derived.KernelRfl
namespace Go.Proofs.YtnccbhndlnkboaaDoor
/- THE CELL 'sum', in the pinned program and in every row, IS THE sha256 OF THE DUMP (.gsa) THAT YtnccbhndlnkboaaDoorProg.lean LOADS. Nothing in Lean hashes anything: it is a label: what it is worth is what the hold of that sum in a sandbox is worth. -/
noncomputable def Tryd.pinned : Pinned := { name := "ytnccbhndlnkboaadoor", sum := "708be9c4f02737ccc4f83cd490f3b358c6f5f3501d785d965aa243939fbe04d4", checked := Tryd.checked }
namespace Rows
def none {H : Type} : Left H := { results := [], args := [] }

/- WHAT THE LISTED PACKAGE-LEVEL VARIABLES READ AS WHEN THE CALL BEGINS. Each datum BY PROGRAM (the guide's laid-datum.mjs) off the statement by which the dump's own 'gosem.cut.vars' lays the variable. In a bare row this is a premise. The card (YtnccbhndlnkboaaDoorCards.lean) ties it to the program's text. -/
def laid_fasti_digest_start {H : Type} : DataW H := .agg [.lit (.int .u32 1779033703), .lit (.int .u32 3144134277), .lit (.int .u32 1013904242), .lit (.int .u32 2773480762), .lit (.int .u32 1359893119), .lit (.int .u32 2600822924), .lit (.int .u32 528734635), .lit (.int .u32 1541459225)]
def laid_fasti_digest_numbers {H : Type} : DataW H := .agg [.lit (.int .u32 1116352408), .lit (.int .u32 1899447441), .lit (.int .u32 3049323471), .lit (.int .u32 3921009573), .lit (.int .u32 961987163), .lit (.int .u32 1508970993), .lit (.int .u32 2453635748), .lit (.int .u32 2870763221), .lit (.int .u32 3624381080), .lit (.int .u32 310598401), .lit (.int .u32 607225278), .lit (.int .u32 1426881987), .lit (.int .u32 1925078388), .lit (.int .u32 2162078206), .lit (.int .u32 2614888103), .lit (.int .u32 3248222580), .lit (.int .u32 3835390401), .lit (.int .u32 4022224774), .lit (.int .u32 264347078), .lit (.int .u32 604807628), .lit (.int .u32 770255983), .lit (.int .u32 1249150122), .lit (.int .u32 1555081692), .lit (.int .u32 1996064986), .lit (.int .u32 2554220882), .lit (.int .u32 2821834349), .lit (.int .u32 2952996808), .lit (.int .u32 3210313671), .lit (.int .u32 3336571891), .lit (.int .u32 3584528711), .lit (.int .u32 113926993), .lit (.int .u32 338241895), .lit (.int .u32 666307205), .lit (.int .u32 773529912), .lit (.int .u32 1294757372), .lit (.int .u32 1396182291), .lit (.int .u32 1695183700), .lit (.int .u32 1986661051), .lit (.int .u32 2177026350), .lit (.int .u32 2456956037), .lit (.int .u32 2730485921), .lit (.int .u32 2820302411), .lit (.int .u32 3259730800), .lit (.int .u32 3345764771), .lit (.int .u32 3516065817), .lit (.int .u32 3600352804), .lit (.int .u32 4094571909), .lit (.int .u32 275423344), .lit (.int .u32 430227734), .lit (.int .u32 506948616), .lit (.int .u32 659060556), .lit (.int .u32 883997877), .lit (.int .u32 958139571), .lit (.int .u32 1322822218), .lit (.int .u32 1537002063), .lit (.int .u32 1747873779), .lit (.int .u32 1955562222), .lit (.int .u32 2024104815), .lit (.int .u32 2227730452), .lit (.int .u32 2361852424), .lit (.int .u32 2428436474), .lit (.int .u32 2756734187), .lit (.int .u32 3204031479), .lit (.int .u32 3329325298)]

/-- 'fastilaw41.AccuseWait': WHATEVER THE INPUT: true; the input reads as it did. -/
def accuseWaitSpec : ChangeSpec := { name := "accuseWait", fn := fun _ => fun
  | [d1, d2, d3, d4, d5] => { results := [.lit (.bool true)], args := [d1, d2, d3, d4, d5] }
  | _ => none }
def accuseWaitRow : OpenClaim := { program := "ytnccbhndlnkboaadoor", sum := "708be9c4f02737ccc4f83cd490f3b358c6f5f3501d785d965aa243939fbe04d4", func := "fasti/fastilaw41.AccuseWait", spec := "accuseWait", inPlace := ["internal/bytealg.MakeNoZero"], unfollowed := true, recurses := true, named := ["fasti/digest.start", "fasti/digest.numbers"], apart := false, laid := [("fasti/digest.start", laid_fasti_digest_start), ("fasti/digest.numbers", laid_fasti_digest_numbers)] }
def AccuseWaitSaid : Prop := accuseWaitRow.holds Tryd.pinned (OpenSpec.ofChange accuseWaitSpec)

/-- ITS FALSE NEIGHBOUR: 'it returns false'. Refute it at one input. -/
def accuseWaitWrong : ChangeSpec := { name := "accuseWait", fn := fun _ => fun
  | [d1, d2, d3, d4, d5] => { results := [.lit (.bool false)], args := [d1, d2, d3, d4, d5] }
  | _ => none }
def AccuseWaitWrongFalsely : Prop := accuseWaitRow.holds Tryd.pinned (OpenSpec.ofChange accuseWaitWrong)

/-- 'fastilaw39.SealsSpec': WHATEVER THE INPUT: true; the input reads as it did. -/
def sealsSpecSpec : ChangeSpec := { name := "sealsSpec", fn := fun _ => fun
  | [d1, d2, d3, d4, d5] => { results := [.lit (.bool true)], args := [d1, d2, d3, d4, d5] }
  | _ => none }
def sealsSpecRow : OpenClaim := { program := "ytnccbhndlnkboaadoor", sum := "708be9c4f02737ccc4f83cd490f3b358c6f5f3501d785d965aa243939fbe04d4", func := "fasti/fastilaw39.SealsSpec", spec := "sealsSpec", inPlace := ["internal/bytealg.MakeNoZero"], unfollowed := true, recurses := true, named := ["fasti/digest.start", "fasti/digest.numbers"], apart := false, laid := [("fasti/digest.start", laid_fasti_digest_start), ("fasti/digest.numbers", laid_fasti_digest_numbers)] }
def SealsSpecSaid : Prop := sealsSpecRow.holds Tryd.pinned (OpenSpec.ofChange sealsSpecSpec)

/-- ITS FALSE NEIGHBOUR: 'it returns false'. Refute it at one input. -/
def sealsSpecWrong : ChangeSpec := { name := "sealsSpec", fn := fun _ => fun
  | [d1, d2, d3, d4, d5] => { results := [.lit (.bool false)], args := [d1, d2, d3, d4, d5] }
  | _ => none }
def SealsSpecWrongFalsely : Prop := sealsSpecRow.holds Tryd.pinned (OpenSpec.ofChange sealsSpecWrong)

/-- 'fastilaw39.SealsCheckSpec': WHATEVER THE INPUT: true; the input reads as it did. -/
def sealsCheckSpecSpec : ChangeSpec := { name := "sealsCheckSpec", fn := fun _ => fun
  | [d1, d2, d3] => { results := [.lit (.bool true)], args := [d1, d2, d3] }
  | _ => none }
def sealsCheckSpecRow : OpenClaim := { program := "ytnccbhndlnkboaadoor", sum := "708be9c4f02737ccc4f83cd490f3b358c6f5f3501d785d965aa243939fbe04d4", func := "fasti/fastilaw39.SealsCheckSpec", spec := "sealsCheckSpec", inPlace := ["internal/bytealg.MakeNoZero"], unfollowed := true, recurses := true, named := ["fasti/digest.start", "fasti/digest.numbers"], apart := false, laid := [("fasti/digest.start", laid_fasti_digest_start), ("fasti/digest.numbers", laid_fasti_digest_numbers)] }
def SealsCheckSpecSaid : Prop := sealsCheckSpecRow.holds Tryd.pinned (OpenSpec.ofChange sealsCheckSpecSpec)

/-- ITS FALSE NEIGHBOUR: 'it returns false'. Refute it at one input. -/
def sealsCheckSpecWrong : ChangeSpec := { name := "sealsCheckSpec", fn := fun _ => fun
  | [d1, d2, d3] => { results := [.lit (.bool false)], args := [d1, d2, d3] }
  | _ => none }
def SealsCheckSpecWrongFalsely : Prop := sealsCheckSpecRow.holds Tryd.pinned (OpenSpec.ofChange sealsCheckSpecWrong)

/-- 'fastilaw39.SealsDays': WHATEVER THE INPUT: true; the input reads as it did. -/
def sealsDaysSpec : ChangeSpec := { name := "sealsDays", fn := fun _ => fun
  | [d1, d2] => { results := [.lit (.bool true)], args := [d1, d2] }
  | _ => none }
def sealsDaysRow : OpenClaim := { program := "ytnccbhndlnkboaadoor", sum := "708be9c4f02737ccc4f83cd490f3b358c6f5f3501d785d965aa243939fbe04d4", func := "fasti/fastilaw39.SealsDays", spec := "sealsDays", inPlace := ["internal/bytealg.MakeNoZero"], unfollowed := true, recurses := true, named := ["fasti/digest.start", "fasti/digest.numbers"], apart := false, laid := [("fasti/digest.start", laid_fasti_digest_start), ("fasti/digest.numbers", laid_fasti_digest_numbers)] }
def SealsDaysSaid : Prop := sealsDaysRow.holds Tryd.pinned (OpenSpec.ofChange sealsDaysSpec)

/-- ITS FALSE NEIGHBOUR: 'it returns false'. Refute it at one input. -/
def sealsDaysWrong : ChangeSpec := { name := "sealsDays", fn := fun _ => fun
  | [d1, d2] => { results := [.lit (.bool false)], args := [d1, d2] }
  | _ => none }
def SealsDaysWrongFalsely : Prop := sealsDaysRow.holds Tryd.pinned (OpenSpec.ofChange sealsDaysWrong)

/-- 'fastilaw41.AccuseSpec': WHATEVER THE INPUT: true; the input reads as it did. -/
def accuseSpecSpec : ChangeSpec := { name := "accuseSpec", fn := fun _ => fun
  | [d1, d2, d3, d4] => { results := [.lit (.bool true)], args := [d1, d2, d3, d4] }
  | _ => none }
def accuseSpecRow : OpenClaim := { program := "ytnccbhndlnkboaadoor", sum := "708be9c4f02737ccc4f83cd490f3b358c6f5f3501d785d965aa243939fbe04d4", func := "fasti/fastilaw41.AccuseSpec", spec := "accuseSpec", inPlace := ["internal/bytealg.MakeNoZero"], unfollowed := true, recurses := true, named := ["fasti/digest.start", "fasti/digest.numbers"], apart := false, laid := [("fasti/digest.start", laid_fasti_digest_start), ("fasti/digest.numbers", laid_fasti_digest_numbers)] }
def AccuseSpecSaid : Prop := accuseSpecRow.holds Tryd.pinned (OpenSpec.ofChange accuseSpecSpec)

/-- ITS FALSE NEIGHBOUR: 'it returns false'. Refute it at one input. -/
def accuseSpecWrong : ChangeSpec := { name := "accuseSpec", fn := fun _ => fun
  | [d1, d2, d3, d4] => { results := [.lit (.bool false)], args := [d1, d2, d3, d4] }
  | _ => none }
def AccuseSpecWrongFalsely : Prop := accuseSpecRow.holds Tryd.pinned (OpenSpec.ofChange accuseSpecWrong)

/-- 'fastilaw41.AccuseHonest': WHATEVER THE INPUT: true; the input reads as it did. -/
def accuseHonestSpec : ChangeSpec := { name := "accuseHonest", fn := fun _ => fun
  | [d] => { results := [.lit (.bool true)], args := [d] }
  | _ => none }
def accuseHonestRow : OpenClaim := { program := "ytnccbhndlnkboaadoor", sum := "708be9c4f02737ccc4f83cd490f3b358c6f5f3501d785d965aa243939fbe04d4", func := "fasti/fastilaw41.AccuseHonest", spec := "accuseHonest", inPlace := ["internal/bytealg.MakeNoZero"], unfollowed := true, recurses := true, named := ["fasti/digest.start", "fasti/digest.numbers"], apart := false, laid := [("fasti/digest.start", laid_fasti_digest_start), ("fasti/digest.numbers", laid_fasti_digest_numbers)] }
def AccuseHonestSaid : Prop := accuseHonestRow.holds Tryd.pinned (OpenSpec.ofChange accuseHonestSpec)

/-- ITS FALSE NEIGHBOUR: 'it returns false'. Refute it at one input. -/
def accuseHonestWrong : ChangeSpec := { name := "accuseHonest", fn := fun _ => fun
  | [d] => { results := [.lit (.bool false)], args := [d] }
  | _ => none }
def AccuseHonestWrongFalsely : Prop := accuseHonestRow.holds Tryd.pinned (OpenSpec.ofChange accuseHonestWrong)

/-- 'fastilaw41.AccuseOthers': WHATEVER THE INPUT: true; the input reads as it did. -/
def accuseOthersSpec : ChangeSpec := { name := "accuseOthers", fn := fun _ => fun
  | [d1, d2, d3, d4, d5] => { results := [.lit (.bool true)], args := [d1, d2, d3, d4, d5] }
  | _ => none }
def accuseOthersRow : OpenClaim := { program := "ytnccbhndlnkboaadoor", sum := "708be9c4f02737ccc4f83cd490f3b358c6f5f3501d785d965aa243939fbe04d4", func := "fasti/fastilaw41.AccuseOthers", spec := "accuseOthers", inPlace := ["internal/bytealg.MakeNoZero"], unfollowed := true, recurses := true, named := ["fasti/digest.start", "fasti/digest.numbers"], apart := false, laid := [("fasti/digest.start", laid_fasti_digest_start), ("fasti/digest.numbers", laid_fasti_digest_numbers)] }
def AccuseOthersSaid : Prop := accuseOthersRow.holds Tryd.pinned (OpenSpec.ofChange accuseOthersSpec)

/-- ITS FALSE NEIGHBOUR: 'it returns false'. Refute it at one input. -/
def accuseOthersWrong : ChangeSpec := { name := "accuseOthers", fn := fun _ => fun
  | [d1, d2, d3, d4, d5] => { results := [.lit (.bool false)], args := [d1, d2, d3, d4, d5] }
  | _ => none }
def AccuseOthersWrongFalsely : Prop := accuseOthersRow.holds Tryd.pinned (OpenSpec.ofChange accuseOthersWrong)

/- THE SECOND FORM. 'bulk': how many values and letters a reading holds, each counted each time it is reached (what is shared counts as often as it is met; a slice's spare places count too). A statement '..UptoSaid' is the law's where the arguments, and the package variables that the reading takes, are together of bulk at most 1048576: NARROWER than '..Said'. Prove '..Said' where nothing that the law and all that it calls make is longer than what came in: it says more and counts as full. Else prove '..UptoSaid'. A law counts once. -/
mutual
def uptoBulk {H : Type} : DataW H → Nat
  | .lit (.string bytes) => bytes.length + 1
  | .lit _ => 1
  | .nil => 1
  | .ptr d => uptoBulk d + 1
  | .slice elems spare => uptoBulkAll elems + uptoBulkAll spare + 1
  | .agg parts => uptoBulkAll parts + 1
  | .iface _ d => uptoBulk d + 1
  | .map entries => uptoBulkEntries entries + 1
  | .held _ => 1
def uptoBulkAll {H : Type} : List (DataW H) → Nat
  | [] => 0
  | d :: r => uptoBulk d + uptoBulkAll r
def uptoBulkEntries {H : Type} : List (Lit × DataW H) → Nat
  | [] => 0
  | x :: r => uptoBulkEntry x + uptoBulkEntries r
def uptoBulkEntry {H : Type} : Lit × DataW H → Nat
  | (.string bytes, d) => bytes.length + uptoBulk d + 1
  | (_, d) => uptoBulk d + 1
 end
def uptoSmall : (H : Type) → List (DataW H) → Bool := fun _ ds => decide (uptoBulkAll ds ≤ 1048576)
def OpenSpec.upto (s : _root_.Go.ChangeSpec) : _root_.Go.OpenSpec := { _root_.Go.OpenSpec.ofChange s with cond := some uptoSmall }

/-- 'fastilaw41.AccuseWait', WHERE WHAT IT READS IS OF BULK AT MOST 1048576: true; the input reads as it did. -/
def accuseWaitUptoRow : OpenClaim := { program := "ytnccbhndlnkboaadoor", sum := "708be9c4f02737ccc4f83cd490f3b358c6f5f3501d785d965aa243939fbe04d4", func := "fasti/fastilaw41.AccuseWait", spec := "accuseWait", inPlace := ["internal/bytealg.MakeNoZero"], unfollowed := true, recurses := true, named := ["fasti/digest.start", "fasti/digest.numbers"], apart := false, laid := [("fasti/digest.start", laid_fasti_digest_start), ("fasti/digest.numbers", laid_fasti_digest_numbers)], narrowed := true }
def AccuseWaitUptoSaid : Prop := accuseWaitUptoRow.holds Tryd.pinned (OpenSpec.upto accuseWaitSpec)

/-- 'fastilaw39.SealsSpec', WHERE WHAT IT READS IS OF BULK AT MOST 1048576: true; the input reads as it did. -/
def sealsSpecUptoRow : OpenClaim := { program := "ytnccbhndlnkboaadoor", sum := "708be9c4f02737ccc4f83cd490f3b358c6f5f3501d785d965aa243939fbe04d4", func := "fasti/fastilaw39.SealsSpec", spec := "sealsSpec", inPlace := ["internal/bytealg.MakeNoZero"], unfollowed := true, recurses := true, named := ["fasti/digest.start", "fasti/digest.numbers"], apart := false, laid := [("fasti/digest.start", laid_fasti_digest_start), ("fasti/digest.numbers", laid_fasti_digest_numbers)], narrowed := true }
def SealsSpecUptoSaid : Prop := sealsSpecUptoRow.holds Tryd.pinned (OpenSpec.upto sealsSpecSpec)

/-- 'fastilaw39.SealsCheckSpec', WHERE WHAT IT READS IS OF BULK AT MOST 1048576: true; the input reads as it did. -/
def sealsCheckSpecUptoRow : OpenClaim := { program := "ytnccbhndlnkboaadoor", sum := "708be9c4f02737ccc4f83cd490f3b358c6f5f3501d785d965aa243939fbe04d4", func := "fasti/fastilaw39.SealsCheckSpec", spec := "sealsCheckSpec", inPlace := ["internal/bytealg.MakeNoZero"], unfollowed := true, recurses := true, named := ["fasti/digest.start", "fasti/digest.numbers"], apart := false, laid := [("fasti/digest.start", laid_fasti_digest_start), ("fasti/digest.numbers", laid_fasti_digest_numbers)], narrowed := true }
def SealsCheckSpecUptoSaid : Prop := sealsCheckSpecUptoRow.holds Tryd.pinned (OpenSpec.upto sealsCheckSpecSpec)

/-- 'fastilaw39.SealsDays', WHERE WHAT IT READS IS OF BULK AT MOST 1048576: true; the input reads as it did. -/
def sealsDaysUptoRow : OpenClaim := { program := "ytnccbhndlnkboaadoor", sum := "708be9c4f02737ccc4f83cd490f3b358c6f5f3501d785d965aa243939fbe04d4", func := "fasti/fastilaw39.SealsDays", spec := "sealsDays", inPlace := ["internal/bytealg.MakeNoZero"], unfollowed := true, recurses := true, named := ["fasti/digest.start", "fasti/digest.numbers"], apart := false, laid := [("fasti/digest.start", laid_fasti_digest_start), ("fasti/digest.numbers", laid_fasti_digest_numbers)], narrowed := true }
def SealsDaysUptoSaid : Prop := sealsDaysUptoRow.holds Tryd.pinned (OpenSpec.upto sealsDaysSpec)

/-- 'fastilaw41.AccuseSpec', WHERE WHAT IT READS IS OF BULK AT MOST 1048576: true; the input reads as it did. -/
def accuseSpecUptoRow : OpenClaim := { program := "ytnccbhndlnkboaadoor", sum := "708be9c4f02737ccc4f83cd490f3b358c6f5f3501d785d965aa243939fbe04d4", func := "fasti/fastilaw41.AccuseSpec", spec := "accuseSpec", inPlace := ["internal/bytealg.MakeNoZero"], unfollowed := true, recurses := true, named := ["fasti/digest.start", "fasti/digest.numbers"], apart := false, laid := [("fasti/digest.start", laid_fasti_digest_start), ("fasti/digest.numbers", laid_fasti_digest_numbers)], narrowed := true }
def AccuseSpecUptoSaid : Prop := accuseSpecUptoRow.holds Tryd.pinned (OpenSpec.upto accuseSpecSpec)

/-- 'fastilaw41.AccuseHonest', WHERE WHAT IT READS IS OF BULK AT MOST 1048576: true; the input reads as it did. -/
def accuseHonestUptoRow : OpenClaim := { program := "ytnccbhndlnkboaadoor", sum := "708be9c4f02737ccc4f83cd490f3b358c6f5f3501d785d965aa243939fbe04d4", func := "fasti/fastilaw41.AccuseHonest", spec := "accuseHonest", inPlace := ["internal/bytealg.MakeNoZero"], unfollowed := true, recurses := true, named := ["fasti/digest.start", "fasti/digest.numbers"], apart := false, laid := [("fasti/digest.start", laid_fasti_digest_start), ("fasti/digest.numbers", laid_fasti_digest_numbers)], narrowed := true }
def AccuseHonestUptoSaid : Prop := accuseHonestUptoRow.holds Tryd.pinned (OpenSpec.upto accuseHonestSpec)

/-- 'fastilaw41.AccuseOthers', WHERE WHAT IT READS IS OF BULK AT MOST 1048576: true; the input reads as it did. -/
def accuseOthersUptoRow : OpenClaim := { program := "ytnccbhndlnkboaadoor", sum := "708be9c4f02737ccc4f83cd490f3b358c6f5f3501d785d965aa243939fbe04d4", func := "fasti/fastilaw41.AccuseOthers", spec := "accuseOthers", inPlace := ["internal/bytealg.MakeNoZero"], unfollowed := true, recurses := true, named := ["fasti/digest.start", "fasti/digest.numbers"], apart := false, laid := [("fasti/digest.start", laid_fasti_digest_start), ("fasti/digest.numbers", laid_fasti_digest_numbers)], narrowed := true }
def AccuseOthersUptoSaid : Prop := accuseOthersUptoRow.holds Tryd.pinned (OpenSpec.upto accuseOthersSpec)

end Rows
end Go.Proofs.YtnccbhndlnkboaaDoor
