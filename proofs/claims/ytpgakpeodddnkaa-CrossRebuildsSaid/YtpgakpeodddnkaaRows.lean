/-
  No cell of these rows narrows 'for every input' (looked for: loops, veiled, ifaces, maps, wideKeys, modest, calm, conditions, laid).
  DERIVED. THE GIVEN ROWS OF THIS SEAT. 8 by the template 'for every input the law returns true; each argument reads behind the call as it read before'; 0 by the template 'total and deterministic' (their statements: YtpgakpeodddnkaaTotals.lean).
  GIVEN WITH THE SEED: the statements are not yours to turn. If you find one false, say at which input.
  Laid BY PROGRAM, IN A SANDBOX (cutbox-rows.mjs): the forced cells as the released guide's own fill.sh prints them over the translation 22ea4c5c54f9361b… (all of the seat's roots in one cut). By AI agents, Wed Nov 11 2026. No macro, syntax, notation, axiom, sorry.
-/
import Derived.Test.YtpgakpeodddnkaaChecked
import GoSem.Claim
import GoSem.ClaimJoined
import GoSem.ClaimMapViews
import Derived.JoinedTies
import Derived.KernelRfl
namespace Go.Proofs.Ytpgakpeodddnkaa
/- THE CELL 'sum', in the pinned program and in every row, IS THE sha256 OF THE DUMP (.gsa) THAT YtpgakpeodddnkaaProg.lean LOADS. Nothing in Lean hashes anything: it is a label: what it is worth is what the hold of that sum in a sandbox is worth. -/
noncomputable def Try.pinned : Pinned := { name := "ytpgakpeodddnkaa", sum := "22ea4c5c54f9361bf2c83ffdca8ce5d649f0f3cb6aa1688984d57e9f6cd7e324", checked := Try.checked }
namespace Rows
def none {H : Type} : Left H := { results := [], args := [] }

/-- 'supercargolaw.CrossTells': WHATEVER THE INPUT: true; the input reads as it did. -/
def crossTellsSpec : ChangeSpec := { name := "crossTells", fn := fun _ => fun
  | [d1, d2, d3, d4, d5] => { results := [.lit (.bool true)], args := [d1, d2, d3, d4, d5] }
  | _ => none }
def crossTellsRow : OpenClaim := { program := "ytpgakpeodddnkaa", sum := "22ea4c5c54f9361bf2c83ffdca8ce5d649f0f3cb6aa1688984d57e9f6cd7e324", func := "supercargo/supercargolaw.CrossTells", spec := "crossTells", unfollowed := true, recurses := true, plainKeys := false, apart := false }
def CrossTellsSaid : Prop := crossTellsRow.holds Try.pinned (OpenSpec.ofChange crossTellsSpec)

/-- ITS FALSE NEIGHBOUR: 'it returns false'. Refute it at one input. -/
def crossTellsWrong : ChangeSpec := { name := "crossTells", fn := fun _ => fun
  | [d1, d2, d3, d4, d5] => { results := [.lit (.bool false)], args := [d1, d2, d3, d4, d5] }
  | _ => none }
def CrossTellsWrongFalsely : Prop := crossTellsRow.holds Try.pinned (OpenSpec.ofChange crossTellsWrong)

/-- 'supercargolaw.CrossRebuilds': WHATEVER THE INPUT: true; the input reads as it did. -/
def crossRebuildsSpec : ChangeSpec := { name := "crossRebuilds", fn := fun _ => fun
  | [d1, d2, d3, d4] => { results := [.lit (.bool true)], args := [d1, d2, d3, d4] }
  | _ => none }
def crossRebuildsRow : OpenClaim := { program := "ytpgakpeodddnkaa", sum := "22ea4c5c54f9361bf2c83ffdca8ce5d649f0f3cb6aa1688984d57e9f6cd7e324", func := "supercargo/supercargolaw.CrossRebuilds", spec := "crossRebuilds", unfollowed := true, recurses := true, plainKeys := false, apart := false }
def CrossRebuildsSaid : Prop := crossRebuildsRow.holds Try.pinned (OpenSpec.ofChange crossRebuildsSpec)

/-- ITS FALSE NEIGHBOUR: 'it returns false'. Refute it at one input. -/
def crossRebuildsWrong : ChangeSpec := { name := "crossRebuilds", fn := fun _ => fun
  | [d1, d2, d3, d4] => { results := [.lit (.bool false)], args := [d1, d2, d3, d4] }
  | _ => none }
def CrossRebuildsWrongFalsely : Prop := crossRebuildsRow.holds Try.pinned (OpenSpec.ofChange crossRebuildsWrong)

/-- 'supercargolaw.CrossOnly': WHATEVER THE INPUT: true; the input reads as it did. -/
def crossOnlySpec : ChangeSpec := { name := "crossOnly", fn := fun _ => fun
  | [d1, d2, d3, d4, d5] => { results := [.lit (.bool true)], args := [d1, d2, d3, d4, d5] }
  | _ => none }
def crossOnlyRow : OpenClaim := { program := "ytpgakpeodddnkaa", sum := "22ea4c5c54f9361bf2c83ffdca8ce5d649f0f3cb6aa1688984d57e9f6cd7e324", func := "supercargo/supercargolaw.CrossOnly", spec := "crossOnly", unfollowed := true, recurses := true, plainKeys := false, apart := false }
def CrossOnlySaid : Prop := crossOnlyRow.holds Try.pinned (OpenSpec.ofChange crossOnlySpec)

/-- ITS FALSE NEIGHBOUR: 'it returns false'. Refute it at one input. -/
def crossOnlyWrong : ChangeSpec := { name := "crossOnly", fn := fun _ => fun
  | [d1, d2, d3, d4, d5] => { results := [.lit (.bool false)], args := [d1, d2, d3, d4, d5] }
  | _ => none }
def CrossOnlyWrongFalsely : Prop := crossOnlyRow.holds Try.pinned (OpenSpec.ofChange crossOnlyWrong)

/-- 'supercargolaw.CrossLinear': WHATEVER THE INPUT: true; the input reads as it did. -/
def crossLinearSpec : ChangeSpec := { name := "crossLinear", fn := fun _ => fun
  | [d1, d2] => { results := [.lit (.bool true)], args := [d1, d2] }
  | _ => none }
def crossLinearRow : OpenClaim := { program := "ytpgakpeodddnkaa", sum := "22ea4c5c54f9361bf2c83ffdca8ce5d649f0f3cb6aa1688984d57e9f6cd7e324", func := "supercargo/supercargolaw.CrossLinear", spec := "crossLinear", unfollowed := true, recurses := true, plainKeys := false, apart := false }
def CrossLinearSaid : Prop := crossLinearRow.holds Try.pinned (OpenSpec.ofChange crossLinearSpec)

/-- ITS FALSE NEIGHBOUR: 'it returns false'. Refute it at one input. -/
def crossLinearWrong : ChangeSpec := { name := "crossLinear", fn := fun _ => fun
  | [d1, d2] => { results := [.lit (.bool false)], args := [d1, d2] }
  | _ => none }
def CrossLinearWrongFalsely : Prop := crossLinearRow.holds Try.pinned (OpenSpec.ofChange crossLinearWrong)

/-- 'supercargolaw.CrossAbout': WHATEVER THE INPUT: true; the input reads as it did. -/
def crossAboutSpec : ChangeSpec := { name := "crossAbout", fn := fun _ => fun
  | [d1, d2, d3, d4, d5] => { results := [.lit (.bool true)], args := [d1, d2, d3, d4, d5] }
  | _ => none }
def crossAboutRow : OpenClaim := { program := "ytpgakpeodddnkaa", sum := "22ea4c5c54f9361bf2c83ffdca8ce5d649f0f3cb6aa1688984d57e9f6cd7e324", func := "supercargo/supercargolaw.CrossAbout", spec := "crossAbout", unfollowed := true, recurses := true, plainKeys := false, apart := false }
def CrossAboutSaid : Prop := crossAboutRow.holds Try.pinned (OpenSpec.ofChange crossAboutSpec)

/-- ITS FALSE NEIGHBOUR: 'it returns false'. Refute it at one input. -/
def crossAboutWrong : ChangeSpec := { name := "crossAbout", fn := fun _ => fun
  | [d1, d2, d3, d4, d5] => { results := [.lit (.bool false)], args := [d1, d2, d3, d4, d5] }
  | _ => none }
def CrossAboutWrongFalsely : Prop := crossAboutRow.holds Try.pinned (OpenSpec.ofChange crossAboutWrong)

/-- 'supercargolaw.WordMends': WHATEVER THE INPUT: true; the input reads as it did. -/
def wordMendsSpec : ChangeSpec := { name := "wordMends", fn := fun _ => fun
  | [d1, d2, d3] => { results := [.lit (.bool true)], args := [d1, d2, d3] }
  | _ => none }
def wordMendsRow : OpenClaim := { program := "ytpgakpeodddnkaa", sum := "22ea4c5c54f9361bf2c83ffdca8ce5d649f0f3cb6aa1688984d57e9f6cd7e324", func := "supercargo/supercargolaw.WordMends", spec := "wordMends", inPlace := ["internal/abi.NoEscape"], unfollowed := true, recurses := true, plainKeys := false, apart := false }
def WordMendsSaid : Prop := wordMendsRow.holds Try.pinned (OpenSpec.ofChange wordMendsSpec)

/-- ITS FALSE NEIGHBOUR: 'it returns false'. Refute it at one input. -/
def wordMendsWrong : ChangeSpec := { name := "wordMends", fn := fun _ => fun
  | [d1, d2, d3] => { results := [.lit (.bool false)], args := [d1, d2, d3] }
  | _ => none }
def WordMendsWrongFalsely : Prop := wordMendsRow.holds Try.pinned (OpenSpec.ofChange wordMendsWrong)

/-- 'supercargolaw.WordAll': WHATEVER THE INPUT: true; the input reads as it did. -/
def wordAllSpec : ChangeSpec := { name := "wordAll", fn := fun _ => fun
  | [d1, d2] => { results := [.lit (.bool true)], args := [d1, d2] }
  | _ => none }
def wordAllRow : OpenClaim := { program := "ytpgakpeodddnkaa", sum := "22ea4c5c54f9361bf2c83ffdca8ce5d649f0f3cb6aa1688984d57e9f6cd7e324", func := "supercargo/supercargolaw.WordAll", spec := "wordAll", inPlace := ["internal/abi.NoEscape"], unfollowed := true, recurses := true, plainKeys := false, apart := false }
def WordAllSaid : Prop := wordAllRow.holds Try.pinned (OpenSpec.ofChange wordAllSpec)

/-- ITS FALSE NEIGHBOUR: 'it returns false'. Refute it at one input. -/
def wordAllWrong : ChangeSpec := { name := "wordAll", fn := fun _ => fun
  | [d1, d2] => { results := [.lit (.bool false)], args := [d1, d2] }
  | _ => none }
def WordAllWrongFalsely : Prop := wordAllRow.holds Try.pinned (OpenSpec.ofChange wordAllWrong)

/-- 'supercargolaw.WordOnly': WHATEVER THE INPUT: true; the input reads as it did. -/
def wordOnlySpec : ChangeSpec := { name := "wordOnly", fn := fun _ => fun
  | [d] => { results := [.lit (.bool true)], args := [d] }
  | _ => none }
def wordOnlyRow : OpenClaim := { program := "ytpgakpeodddnkaa", sum := "22ea4c5c54f9361bf2c83ffdca8ce5d649f0f3cb6aa1688984d57e9f6cd7e324", func := "supercargo/supercargolaw.WordOnly", spec := "wordOnly", inPlace := ["internal/abi.NoEscape"], unfollowed := true, recurses := true, plainKeys := false, apart := false }
def WordOnlySaid : Prop := wordOnlyRow.holds Try.pinned (OpenSpec.ofChange wordOnlySpec)

/-- ITS FALSE NEIGHBOUR: 'it returns false'. Refute it at one input. -/
def wordOnlyWrong : ChangeSpec := { name := "wordOnly", fn := fun _ => fun
  | [d] => { results := [.lit (.bool false)], args := [d] }
  | _ => none }
def WordOnlyWrongFalsely : Prop := wordOnlyRow.holds Try.pinned (OpenSpec.ofChange wordOnlyWrong)

/- THE SECOND FORM. 'bulk': how many values and letters a reading holds, each counted each time it is reached (what is shared counts as often as it is met; a slice's spare places count too). A statement '..UptoSaid' is the law's where the arguments, and the package variables that the reading takes, are together of bulk at most 1048576: NARROWER than '..Said'. Prove '..Said' where nothing that the law and all that it calls make is longer than what came in: it says more and counts as full. Else prove '..UptoSaid'. A law counts once. -/
mutual
def uptoBulk {H : Type} : DataW H → Nat
  | .lit (.string bytes) => bytes.length + 1
  | .lit _ => 1
  | .nil => 1
  | .ptr d => uptoBulk d + 1
  | .slice elems spare => uptoBulkAll elems + uptoBulkAll spare + 1
  | .agg parts => uptoBulkAll parts + 1
  | .iface _ d => uptoBulk d + 1
  | .map entries => uptoBulkEntries entries + 1
  | .held _ => 1
def uptoBulkAll {H : Type} : List (DataW H) → Nat
  | [] => 0
  | d :: r => uptoBulk d + uptoBulkAll r
def uptoBulkEntries {H : Type} : List (Lit × DataW H) → Nat
  | [] => 0
  | x :: r => uptoBulkEntry x + uptoBulkEntries r
def uptoBulkEntry {H : Type} : Lit × DataW H → Nat
  | (.string bytes, d) => bytes.length + uptoBulk d + 1
  | (_, d) => uptoBulk d + 1
 end
def uptoSmall : (H : Type) → List (DataW H) → Bool := fun _ ds => decide (uptoBulkAll ds ≤ 1048576)
def OpenSpec.upto (s : _root_.Go.ChangeSpec) : _root_.Go.OpenSpec := { _root_.Go.OpenSpec.ofChange s with cond := some uptoSmall }

/-- 'supercargolaw.CrossTells', WHERE WHAT IT READS IS OF BULK AT MOST 1048576: true; the input reads as it did. -/
def crossTellsUptoRow : OpenClaim := { program := "ytpgakpeodddnkaa", sum := "22ea4c5c54f9361bf2c83ffdca8ce5d649f0f3cb6aa1688984d57e9f6cd7e324", func := "supercargo/supercargolaw.CrossTells", spec := "crossTells", unfollowed := true, recurses := true, plainKeys := false, apart := false, narrowed := true }
def CrossTellsUptoSaid : Prop := crossTellsUptoRow.holds Try.pinned (OpenSpec.upto crossTellsSpec)

/-- 'supercargolaw.CrossRebuilds', WHERE WHAT IT READS IS OF BULK AT MOST 1048576: true; the input reads as it did. -/
def crossRebuildsUptoRow : OpenClaim := { program := "ytpgakpeodddnkaa", sum := "22ea4c5c54f9361bf2c83ffdca8ce5d649f0f3cb6aa1688984d57e9f6cd7e324", func := "supercargo/supercargolaw.CrossRebuilds", spec := "crossRebuilds", unfollowed := true, recurses := true, plainKeys := false, apart := false, narrowed := true }
def CrossRebuildsUptoSaid : Prop := crossRebuildsUptoRow.holds Try.pinned (OpenSpec.upto crossRebuildsSpec)

/-- 'supercargolaw.CrossOnly', WHERE WHAT IT READS IS OF BULK AT MOST 1048576: true; the input reads as it did. -/
def crossOnlyUptoRow : OpenClaim := { program := "ytpgakpeodddnkaa", sum := "22ea4c5c54f9361bf2c83ffdca8ce5d649f0f3cb6aa1688984d57e9f6cd7e324", func := "supercargo/supercargolaw.CrossOnly", spec := "crossOnly", unfollowed := true, recurses := true, plainKeys := false, apart := false, narrowed := true }
def CrossOnlyUptoSaid : Prop := crossOnlyUptoRow.holds Try.pinned (OpenSpec.upto crossOnlySpec)

/-- 'supercargolaw.CrossLinear', WHERE WHAT IT READS IS OF BULK AT MOST 1048576: true; the input reads as it did. -/
def crossLinearUptoRow : OpenClaim := { program := "ytpgakpeodddnkaa", sum := "22ea4c5c54f9361bf2c83ffdca8ce5d649f0f3cb6aa1688984d57e9f6cd7e324", func := "supercargo/supercargolaw.CrossLinear", spec := "crossLinear", unfollowed := true, recurses := true, plainKeys := false, apart := false, narrowed := true }
def CrossLinearUptoSaid : Prop := crossLinearUptoRow.holds Try.pinned (OpenSpec.upto crossLinearSpec)

/-- 'supercargolaw.CrossAbout', WHERE WHAT IT READS IS OF BULK AT MOST 1048576: true; the input reads as it did. -/
def crossAboutUptoRow : OpenClaim := { program := "ytpgakpeodddnkaa", sum := "22ea4c5c54f9361bf2c83ffdca8ce5d649f0f3cb6aa1688984d57e9f6cd7e324", func := "supercargo/supercargolaw.CrossAbout", spec := "crossAbout", unfollowed := true, recurses := true, plainKeys := false, apart := false, narrowed := true }
def CrossAboutUptoSaid : Prop := crossAboutUptoRow.holds Try.pinned (OpenSpec.upto crossAboutSpec)

/-- 'supercargolaw.WordMends', WHERE WHAT IT READS IS OF BULK AT MOST 1048576: true; the input reads as it did. -/
def wordMendsUptoRow : OpenClaim := { program := "ytpgakpeodddnkaa", sum := "22ea4c5c54f9361bf2c83ffdca8ce5d649f0f3cb6aa1688984d57e9f6cd7e324", func := "supercargo/supercargolaw.WordMends", spec := "wordMends", inPlace := ["internal/abi.NoEscape"], unfollowed := true, recurses := true, plainKeys := false, apart := false, narrowed := true }
def WordMendsUptoSaid : Prop := wordMendsUptoRow.holds Try.pinned (OpenSpec.upto wordMendsSpec)

/-- 'supercargolaw.WordAll', WHERE WHAT IT READS IS OF BULK AT MOST 1048576: true; the input reads as it did. -/
def wordAllUptoRow : OpenClaim := { program := "ytpgakpeodddnkaa", sum := "22ea4c5c54f9361bf2c83ffdca8ce5d649f0f3cb6aa1688984d57e9f6cd7e324", func := "supercargo/supercargolaw.WordAll", spec := "wordAll", inPlace := ["internal/abi.NoEscape"], unfollowed := true, recurses := true, plainKeys := false, apart := false, narrowed := true }
def WordAllUptoSaid : Prop := wordAllUptoRow.holds Try.pinned (OpenSpec.upto wordAllSpec)

/-- 'supercargolaw.WordOnly', WHERE WHAT IT READS IS OF BULK AT MOST 1048576: true; the input reads as it did. -/
def wordOnlyUptoRow : OpenClaim := { program := "ytpgakpeodddnkaa", sum := "22ea4c5c54f9361bf2c83ffdca8ce5d649f0f3cb6aa1688984d57e9f6cd7e324", func := "supercargo/supercargolaw.WordOnly", spec := "wordOnly", inPlace := ["internal/abi.NoEscape"], unfollowed := true, recurses := true, plainKeys := false, apart := false, narrowed := true }
def WordOnlyUptoSaid : Prop := wordOnlyUptoRow.holds Try.pinned (OpenSpec.upto wordOnlySpec)

end Rows
end Go.Proofs.Ytpgakpeodddnkaa
