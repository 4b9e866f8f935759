/-
  NARROWER THAN 'FOR EVERY INPUT', by the rows' own cells (each row's printed sentence says how): FnExactSegHear: laid · FnSegOther: laid · FnSegBack: laid · FnSegLost: laid.
  DERIVED. THE GIVEN ROWS OF THIS SEAT. 4 by the template 'for every input the law returns true; each argument reads behind the call as it read before'; 0 by the template 'total and deterministic' (their statements: YtondhdiipaijiaaDoorTotals.lean).
  GIVEN WITH THE SEED: the statements are not yours to turn. If you find one false, say at which input.
  Laid BY PROGRAM, IN A SANDBOX (cutbox-rows.mjs): the forced cells as the released guide's own fill.sh prints them over the translation a071ff8bd05e477e… (all of the seat's roots in one cut). By AI agents, Wed Nov 11 2026. No macro, syntax, notation, axiom, sorry.
-/
import Derived.Test.YtondhdiipaijiaaDoorChecked
import GoSem.Claim
import GoSem.ClaimJoined
import GoSem.ClaimMapViews
import Derived.JoinedTies
import Derived.KernelRfl
namespace Go.Proofs.YtondhdiipaijiaaDoor
/- THE CELL 'sum', in the pinned program and in every row, IS THE sha256 OF THE DUMP (.gsa) THAT YtondhdiipaijiaaDoorProg.lean LOADS. Nothing in Lean hashes anything: it is a label: what it is worth is what the hold of that sum in a sandbox is worth. -/
noncomputable def Tryd.pinned : Pinned := { name := "ytondhdiipaijiaadoor", sum := "a071ff8bd05e477eca66174ace8d9238c7636a50a3d162181f2924254e6e22f2", checked := Tryd.checked }
namespace Rows
def none {H : Type} : Left H := { results := [], args := [] }

/- WHAT THE LISTED PACKAGE-LEVEL VARIABLES READ AS WHEN THE CALL BEGINS. Each datum BY PROGRAM (the guide's laid-datum.mjs) off the statement by which the dump's own 'gosem.cut.vars' lays the variable. In a bare row this is a premise. The card (YtondhdiipaijiaaDoorCards.lean) ties it to the program's text. -/
def laid_bytes_ErrTooLarge {H : Type} : DataW H := .iface "*errors.errorString" (.ptr (.agg [.lit (.string [98, 121, 116, 101, 115, 46, 66, 117, 102, 102, 101, 114, 58, 32, 116, 111, 111, 32, 108, 97, 114, 103, 101])]))

/-- 'laws.FnExactSegHear': WHATEVER THE INPUT: true; the input reads as it did. -/
def fnExactSegHearSpec : ChangeSpec := { name := "fnExactSegHear", fn := fun _ => fun
  | [d1, d2, d3] => { results := [.lit (.bool true)], args := [d1, d2, d3] }
  | _ => none }
def fnExactSegHearRow : OpenClaim := { program := "ytondhdiipaijiaadoor", sum := "a071ff8bd05e477eca66174ace8d9238c7636a50a3d162181f2924254e6e22f2", func := "loop.example/skyway/laws.FnExactSegHear", spec := "fnExactSegHear", named := ["bytes.ErrTooLarge"], apart := false, laid := [("bytes.ErrTooLarge", laid_bytes_ErrTooLarge)] }
def FnExactSegHearSaid : Prop := fnExactSegHearRow.holds Tryd.pinned (OpenSpec.ofChange fnExactSegHearSpec)

/-- ITS FALSE NEIGHBOUR: 'it returns false'. Refute it at one input. -/
def fnExactSegHearWrong : ChangeSpec := { name := "fnExactSegHear", fn := fun _ => fun
  | [d1, d2, d3] => { results := [.lit (.bool false)], args := [d1, d2, d3] }
  | _ => none }
def FnExactSegHearWrongFalsely : Prop := fnExactSegHearRow.holds Tryd.pinned (OpenSpec.ofChange fnExactSegHearWrong)

/-- 'laws.FnSegOther': WHATEVER THE INPUT: true; the input reads as it did. -/
def fnSegOtherSpec : ChangeSpec := { name := "fnSegOther", fn := fun _ => fun
  | [d] => { results := [.lit (.bool true)], args := [d] }
  | _ => none }
def fnSegOtherRow : OpenClaim := { program := "ytondhdiipaijiaadoor", sum := "a071ff8bd05e477eca66174ace8d9238c7636a50a3d162181f2924254e6e22f2", func := "loop.example/skyway/laws.FnSegOther", spec := "fnSegOther", named := ["bytes.ErrTooLarge"], apart := false, laid := [("bytes.ErrTooLarge", laid_bytes_ErrTooLarge)] }
def FnSegOtherSaid : Prop := fnSegOtherRow.holds Tryd.pinned (OpenSpec.ofChange fnSegOtherSpec)

/-- ITS FALSE NEIGHBOUR: 'it returns false'. Refute it at one input. -/
def fnSegOtherWrong : ChangeSpec := { name := "fnSegOther", fn := fun _ => fun
  | [d] => { results := [.lit (.bool false)], args := [d] }
  | _ => none }
def FnSegOtherWrongFalsely : Prop := fnSegOtherRow.holds Tryd.pinned (OpenSpec.ofChange fnSegOtherWrong)

/-- 'laws.FnSegBack': WHATEVER THE INPUT: true; the input reads as it did. -/
def fnSegBackSpec : ChangeSpec := { name := "fnSegBack", fn := fun _ => fun
  | [d] => { results := [.lit (.bool true)], args := [d] }
  | _ => none }
def fnSegBackRow : OpenClaim := { program := "ytondhdiipaijiaadoor", sum := "a071ff8bd05e477eca66174ace8d9238c7636a50a3d162181f2924254e6e22f2", func := "loop.example/skyway/laws.FnSegBack", spec := "fnSegBack", unfollowed := true, recurses := true, named := ["bytes.ErrTooLarge"], apart := false, laid := [("bytes.ErrTooLarge", laid_bytes_ErrTooLarge)] }
def FnSegBackSaid : Prop := fnSegBackRow.holds Tryd.pinned (OpenSpec.ofChange fnSegBackSpec)

/-- ITS FALSE NEIGHBOUR: 'it returns false'. Refute it at one input. -/
def fnSegBackWrong : ChangeSpec := { name := "fnSegBack", fn := fun _ => fun
  | [d] => { results := [.lit (.bool false)], args := [d] }
  | _ => none }
def FnSegBackWrongFalsely : Prop := fnSegBackRow.holds Tryd.pinned (OpenSpec.ofChange fnSegBackWrong)

/-- 'laws.FnSegLost': WHATEVER THE INPUT: true; the input reads as it did. -/
def fnSegLostSpec : ChangeSpec := { name := "fnSegLost", fn := fun _ => fun
  | [d] => { results := [.lit (.bool true)], args := [d] }
  | _ => none }
def fnSegLostRow : OpenClaim := { program := "ytondhdiipaijiaadoor", sum := "a071ff8bd05e477eca66174ace8d9238c7636a50a3d162181f2924254e6e22f2", func := "loop.example/skyway/laws.FnSegLost", spec := "fnSegLost", unfollowed := true, recurses := true, named := ["bytes.ErrTooLarge"], apart := false, laid := [("bytes.ErrTooLarge", laid_bytes_ErrTooLarge)] }
def FnSegLostSaid : Prop := fnSegLostRow.holds Tryd.pinned (OpenSpec.ofChange fnSegLostSpec)

/-- ITS FALSE NEIGHBOUR: 'it returns false'. Refute it at one input. -/
def fnSegLostWrong : ChangeSpec := { name := "fnSegLost", fn := fun _ => fun
  | [d] => { results := [.lit (.bool false)], args := [d] }
  | _ => none }
def FnSegLostWrongFalsely : Prop := fnSegLostRow.holds Tryd.pinned (OpenSpec.ofChange fnSegLostWrong)

/- THE SECOND FORM. 'bulk': how many values and letters a reading holds, each counted each time it is reached (what is shared counts as often as it is met; a slice's spare places count too). A statement '..UptoSaid' is the law's where the arguments, and the package variables that the reading takes, are together of bulk at most 1048576: NARROWER than '..Said'. Prove '..Said' where nothing that the law and all that it calls make is longer than what came in: it says more and counts as full. Else prove '..UptoSaid'. A law counts once. -/
mutual
def uptoBulk {H : Type} : DataW H → Nat
  | .lit (.string bytes) => bytes.length + 1
  | .lit _ => 1
  | .nil => 1
  | .ptr d => uptoBulk d + 1
  | .slice elems spare => uptoBulkAll elems + uptoBulkAll spare + 1
  | .agg parts => uptoBulkAll parts + 1
  | .iface _ d => uptoBulk d + 1
  | .map entries => uptoBulkEntries entries + 1
  | .held _ => 1
def uptoBulkAll {H : Type} : List (DataW H) → Nat
  | [] => 0
  | d :: r => uptoBulk d + uptoBulkAll r
def uptoBulkEntries {H : Type} : List (Lit × DataW H) → Nat
  | [] => 0
  | x :: r => uptoBulkEntry x + uptoBulkEntries r
def uptoBulkEntry {H : Type} : Lit × DataW H → Nat
  | (.string bytes, d) => bytes.length + uptoBulk d + 1
  | (_, d) => uptoBulk d + 1
 end
def uptoSmall : (H : Type) → List (DataW H) → Bool := fun _ ds => decide (uptoBulkAll ds ≤ 1048576)
def OpenSpec.upto (s : _root_.Go.ChangeSpec) : _root_.Go.OpenSpec := { _root_.Go.OpenSpec.ofChange s with cond := some uptoSmall }

/-- 'laws.FnExactSegHear', WHERE WHAT IT READS IS OF BULK AT MOST 1048576: true; the input reads as it did. -/
def fnExactSegHearUptoRow : OpenClaim := { program := "ytondhdiipaijiaadoor", sum := "a071ff8bd05e477eca66174ace8d9238c7636a50a3d162181f2924254e6e22f2", func := "loop.example/skyway/laws.FnExactSegHear", spec := "fnExactSegHear", named := ["bytes.ErrTooLarge"], apart := false, laid := [("bytes.ErrTooLarge", laid_bytes_ErrTooLarge)], narrowed := true }
def FnExactSegHearUptoSaid : Prop := fnExactSegHearUptoRow.holds Tryd.pinned (OpenSpec.upto fnExactSegHearSpec)

/-- 'laws.FnSegOther', WHERE WHAT IT READS IS OF BULK AT MOST 1048576: true; the input reads as it did. -/
def fnSegOtherUptoRow : OpenClaim := { program := "ytondhdiipaijiaadoor", sum := "a071ff8bd05e477eca66174ace8d9238c7636a50a3d162181f2924254e6e22f2", func := "loop.example/skyway/laws.FnSegOther", spec := "fnSegOther", named := ["bytes.ErrTooLarge"], apart := false, laid := [("bytes.ErrTooLarge", laid_bytes_ErrTooLarge)], narrowed := true }
def FnSegOtherUptoSaid : Prop := fnSegOtherUptoRow.holds Tryd.pinned (OpenSpec.upto fnSegOtherSpec)

/-- 'laws.FnSegBack', WHERE WHAT IT READS IS OF BULK AT MOST 1048576: true; the input reads as it did. -/
def fnSegBackUptoRow : OpenClaim := { program := "ytondhdiipaijiaadoor", sum := "a071ff8bd05e477eca66174ace8d9238c7636a50a3d162181f2924254e6e22f2", func := "loop.example/skyway/laws.FnSegBack", spec := "fnSegBack", unfollowed := true, recurses := true, named := ["bytes.ErrTooLarge"], apart := false, laid := [("bytes.ErrTooLarge", laid_bytes_ErrTooLarge)], narrowed := true }
def FnSegBackUptoSaid : Prop := fnSegBackUptoRow.holds Tryd.pinned (OpenSpec.upto fnSegBackSpec)

/-- 'laws.FnSegLost', WHERE WHAT IT READS IS OF BULK AT MOST 1048576: true; the input reads as it did. -/
def fnSegLostUptoRow : OpenClaim := { program := "ytondhdiipaijiaadoor", sum := "a071ff8bd05e477eca66174ace8d9238c7636a50a3d162181f2924254e6e22f2", func := "loop.example/skyway/laws.FnSegLost", spec := "fnSegLost", unfollowed := true, recurses := true, named := ["bytes.ErrTooLarge"], apart := false, laid := [("bytes.ErrTooLarge", laid_bytes_ErrTooLarge)], narrowed := true }
def FnSegLostUptoSaid : Prop := fnSegLostUptoRow.holds Tryd.pinned (OpenSpec.upto fnSegLostSpec)

end Rows
end Go.Proofs.YtondhdiipaijiaaDoor
