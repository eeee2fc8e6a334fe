/-
  No cell of these rows narrows 'for every input' (looked for: loops, veiled, ifaces, maps, wideKeys, modest, calm, conditions, laid).
  DERIVED. THE GIVEN ROWS OF THIS SEAT. 7 by the template 'for every input the law returns true; each argument reads behind the call as it read before'; 0 by the template 'total and deterministic' (their statements: YtaejnhgnacgheaaTotals.lean).
  GIVEN WITH THE SEED: the statements are not yours to turn. If you find one false, say at which input.
  Laid BY PROGRAM, IN A SANDBOX (cutbox-rows.mjs): the forced cells as the released guide's own fill.sh prints them over the translation aa5928153ebdbae0… (all of the seat's roots in one cut). By AI agents, Wed Nov 11 2026. No macro, syntax, notation, axiom, sorry.
-/
import Derived.Test.YtaejnhgnacgheaaChecked
import GoSem.Claim
import GoSem.ClaimJoined
import GoSem.ClaimMapViews
import Derived.JoinedTies
import Derived.KernelRfl
namespace Go.Proofs.Ytaejnhgnacgheaa
/- THE CELL 'sum', in the pinned program and in every row, IS THE sha256 OF THE DUMP (.gsa) THAT YtaejnhgnacgheaaProg.lean LOADS. Nothing in Lean hashes anything: it is a label: what it is worth is what the hold of that sum in a sandbox is worth. -/
noncomputable def Try.pinned : Pinned := { name := "ytaejnhgnacgheaa", sum := "aa5928153ebdbae078a4c1302a6419a28b0431cb6e5a7e2512c1ca9526c52ce4", checked := Try.checked }
namespace Rows
def none {H : Type} : Left H := { results := [], args := [] }

/-- 'sorteslaw14.TypesCheck': WHATEVER THE INPUT: true; the input reads as it did. -/
def typesCheckSpec : ChangeSpec := { name := "typesCheck", fn := fun _ => fun
  | [d1, d2] => { results := [.lit (.bool true)], args := [d1, d2] }
  | _ => none }
def typesCheckRow : OpenClaim := { program := "ytaejnhgnacgheaa", sum := "aa5928153ebdbae078a4c1302a6419a28b0431cb6e5a7e2512c1ca9526c52ce4", func := "sortes/sorteslaw14.TypesCheck", spec := "typesCheck", unfollowed := true, recurses := true, apart := false }
def TypesCheckSaid : Prop := typesCheckRow.holds Try.pinned (OpenSpec.ofChange typesCheckSpec)

/-- ITS FALSE NEIGHBOUR: 'it returns false'. Refute it at one input. -/
def typesCheckWrong : ChangeSpec := { name := "typesCheck", fn := fun _ => fun
  | [d1, d2] => { results := [.lit (.bool false)], args := [d1, d2] }
  | _ => none }
def TypesCheckWrongFalsely : Prop := typesCheckRow.holds Try.pinned (OpenSpec.ofChange typesCheckWrong)

/-- 'sorteslaw14.TypesRaw': WHATEVER THE INPUT: true; the input reads as it did. -/
def typesRawSpec : ChangeSpec := { name := "typesRaw", fn := fun _ => fun
  | [d1, d2] => { results := [.lit (.bool true)], args := [d1, d2] }
  | _ => none }
def typesRawRow : OpenClaim := { program := "ytaejnhgnacgheaa", sum := "aa5928153ebdbae078a4c1302a6419a28b0431cb6e5a7e2512c1ca9526c52ce4", func := "sortes/sorteslaw14.TypesRaw", spec := "typesRaw", unfollowed := true, recurses := true, apart := false }
def TypesRawSaid : Prop := typesRawRow.holds Try.pinned (OpenSpec.ofChange typesRawSpec)

/-- ITS FALSE NEIGHBOUR: 'it returns false'. Refute it at one input. -/
def typesRawWrong : ChangeSpec := { name := "typesRaw", fn := fun _ => fun
  | [d1, d2] => { results := [.lit (.bool false)], args := [d1, d2] }
  | _ => none }
def TypesRawWrongFalsely : Prop := typesRawRow.holds Try.pinned (OpenSpec.ofChange typesRawWrong)

/-- 'sorteslaw14.TypesEntrants': WHATEVER THE INPUT: true; the input reads as it did. -/
def typesEntrantsSpec : ChangeSpec := { name := "typesEntrants", fn := fun _ => fun
  | [d1, d2, d3] => { results := [.lit (.bool true)], args := [d1, d2, d3] }
  | _ => none }
def typesEntrantsRow : OpenClaim := { program := "ytaejnhgnacgheaa", sum := "aa5928153ebdbae078a4c1302a6419a28b0431cb6e5a7e2512c1ca9526c52ce4", func := "sortes/sorteslaw14.TypesEntrants", spec := "typesEntrants", unfollowed := true, recurses := true, apart := false }
def TypesEntrantsSaid : Prop := typesEntrantsRow.holds Try.pinned (OpenSpec.ofChange typesEntrantsSpec)

/-- ITS FALSE NEIGHBOUR: 'it returns false'. Refute it at one input. -/
def typesEntrantsWrong : ChangeSpec := { name := "typesEntrants", fn := fun _ => fun
  | [d1, d2, d3] => { results := [.lit (.bool false)], args := [d1, d2, d3] }
  | _ => none }
def TypesEntrantsWrongFalsely : Prop := typesEntrantsRow.holds Try.pinned (OpenSpec.ofChange typesEntrantsWrong)

/-- 'sorteslaw14.TypesLess': WHATEVER THE INPUT: true; the input reads as it did. -/
def typesLessSpec : ChangeSpec := { name := "typesLess", fn := fun _ => fun
  | [d1, d2] => { results := [.lit (.bool true)], args := [d1, d2] }
  | _ => none }
def typesLessRow : OpenClaim := { program := "ytaejnhgnacgheaa", sum := "aa5928153ebdbae078a4c1302a6419a28b0431cb6e5a7e2512c1ca9526c52ce4", func := "sortes/sorteslaw14.TypesLess", spec := "typesLess", unfollowed := true, recurses := true, apart := false }
def TypesLessSaid : Prop := typesLessRow.holds Try.pinned (OpenSpec.ofChange typesLessSpec)

/-- ITS FALSE NEIGHBOUR: 'it returns false'. Refute it at one input. -/
def typesLessWrong : ChangeSpec := { name := "typesLess", fn := fun _ => fun
  | [d1, d2] => { results := [.lit (.bool false)], args := [d1, d2] }
  | _ => none }
def TypesLessWrongFalsely : Prop := typesLessRow.holds Try.pinned (OpenSpec.ofChange typesLessWrong)

/-- 'sorteslaw14.TypesAdmits': WHATEVER THE INPUT: true; the input reads as it did. -/
def typesAdmitsSpec : ChangeSpec := { name := "typesAdmits", fn := fun _ => fun
  | [d1, d2, d3] => { results := [.lit (.bool true)], args := [d1, d2, d3] }
  | _ => none }
def typesAdmitsRow : OpenClaim := { program := "ytaejnhgnacgheaa", sum := "aa5928153ebdbae078a4c1302a6419a28b0431cb6e5a7e2512c1ca9526c52ce4", func := "sortes/sorteslaw14.TypesAdmits", spec := "typesAdmits", unfollowed := true, recurses := true, apart := false }
def TypesAdmitsSaid : Prop := typesAdmitsRow.holds Try.pinned (OpenSpec.ofChange typesAdmitsSpec)

/-- ITS FALSE NEIGHBOUR: 'it returns false'. Refute it at one input. -/
def typesAdmitsWrong : ChangeSpec := { name := "typesAdmits", fn := fun _ => fun
  | [d1, d2, d3] => { results := [.lit (.bool false)], args := [d1, d2, d3] }
  | _ => none }
def TypesAdmitsWrongFalsely : Prop := typesAdmitsRow.holds Try.pinned (OpenSpec.ofChange typesAdmitsWrong)

/-- 'sorteslaw14.TypesAgain': WHATEVER THE INPUT: true; the input reads as it did. -/
def typesAgainSpec : ChangeSpec := { name := "typesAgain", fn := fun _ => fun
  | [d1, d2, d3] => { results := [.lit (.bool true)], args := [d1, d2, d3] }
  | _ => none }
def typesAgainRow : OpenClaim := { program := "ytaejnhgnacgheaa", sum := "aa5928153ebdbae078a4c1302a6419a28b0431cb6e5a7e2512c1ca9526c52ce4", func := "sortes/sorteslaw14.TypesAgain", spec := "typesAgain", unfollowed := true, recurses := true, apart := false }
def TypesAgainSaid : Prop := typesAgainRow.holds Try.pinned (OpenSpec.ofChange typesAgainSpec)

/-- ITS FALSE NEIGHBOUR: 'it returns false'. Refute it at one input. -/
def typesAgainWrong : ChangeSpec := { name := "typesAgain", fn := fun _ => fun
  | [d1, d2, d3] => { results := [.lit (.bool false)], args := [d1, d2, d3] }
  | _ => none }
def TypesAgainWrongFalsely : Prop := typesAgainRow.holds Try.pinned (OpenSpec.ofChange typesAgainWrong)

/-- 'sorteslaw14.TypesOwn': WHATEVER THE INPUT: true; the input reads as it did. -/
def typesOwnSpec : ChangeSpec := { name := "typesOwn", fn := fun _ => fun
  | [d] => { results := [.lit (.bool true)], args := [d] }
  | _ => none }
def typesOwnRow : OpenClaim := { program := "ytaejnhgnacgheaa", sum := "aa5928153ebdbae078a4c1302a6419a28b0431cb6e5a7e2512c1ca9526c52ce4", func := "sortes/sorteslaw14.TypesOwn", spec := "typesOwn", unfollowed := true, recurses := true, apart := false }
def TypesOwnSaid : Prop := typesOwnRow.holds Try.pinned (OpenSpec.ofChange typesOwnSpec)

/-- ITS FALSE NEIGHBOUR: 'it returns false'. Refute it at one input. -/
def typesOwnWrong : ChangeSpec := { name := "typesOwn", fn := fun _ => fun
  | [d] => { results := [.lit (.bool false)], args := [d] }
  | _ => none }
def TypesOwnWrongFalsely : Prop := typesOwnRow.holds Try.pinned (OpenSpec.ofChange typesOwnWrong)

/- THE SECOND FORM. 'bulk': how many values and letters a reading holds, each counted each time it is reached (what is shared counts as often as it is met; a slice's spare places count too). A statement '..UptoSaid' is the law's where the arguments, and the package variables that the reading takes, are together of bulk at most 1048576: NARROWER than '..Said'. Prove '..Said' where nothing that the law and all that it calls make is longer than what came in: it says more and counts as full. Else prove '..UptoSaid'. A law counts once. -/
mutual
def uptoBulk {H : Type} : DataW H → Nat
  | .lit (.string bytes) => bytes.length + 1
  | .lit _ => 1
  | .nil => 1
  | .ptr d => uptoBulk d + 1
  | .slice elems spare => uptoBulkAll elems + uptoBulkAll spare + 1
  | .agg parts => uptoBulkAll parts + 1
  | .iface _ d => uptoBulk d + 1
  | .map entries => uptoBulkEntries entries + 1
  | .held _ => 1
def uptoBulkAll {H : Type} : List (DataW H) → Nat
  | [] => 0
  | d :: r => uptoBulk d + uptoBulkAll r
def uptoBulkEntries {H : Type} : List (Lit × DataW H) → Nat
  | [] => 0
  | x :: r => uptoBulkEntry x + uptoBulkEntries r
def uptoBulkEntry {H : Type} : Lit × DataW H → Nat
  | (.string bytes, d) => bytes.length + uptoBulk d + 1
  | (_, d) => uptoBulk d + 1
 end
def uptoSmall : (H : Type) → List (DataW H) → Bool := fun _ ds => decide (uptoBulkAll ds ≤ 1048576)
def OpenSpec.upto (s : _root_.Go.ChangeSpec) : _root_.Go.OpenSpec := { _root_.Go.OpenSpec.ofChange s with cond := some uptoSmall }

/-- 'sorteslaw14.TypesCheck', WHERE WHAT IT READS IS OF BULK AT MOST 1048576: true; the input reads as it did. -/
def typesCheckUptoRow : OpenClaim := { program := "ytaejnhgnacgheaa", sum := "aa5928153ebdbae078a4c1302a6419a28b0431cb6e5a7e2512c1ca9526c52ce4", func := "sortes/sorteslaw14.TypesCheck", spec := "typesCheck", unfollowed := true, recurses := true, apart := false, narrowed := true }
def TypesCheckUptoSaid : Prop := typesCheckUptoRow.holds Try.pinned (OpenSpec.upto typesCheckSpec)

/-- 'sorteslaw14.TypesRaw', WHERE WHAT IT READS IS OF BULK AT MOST 1048576: true; the input reads as it did. -/
def typesRawUptoRow : OpenClaim := { program := "ytaejnhgnacgheaa", sum := "aa5928153ebdbae078a4c1302a6419a28b0431cb6e5a7e2512c1ca9526c52ce4", func := "sortes/sorteslaw14.TypesRaw", spec := "typesRaw", unfollowed := true, recurses := true, apart := false, narrowed := true }
def TypesRawUptoSaid : Prop := typesRawUptoRow.holds Try.pinned (OpenSpec.upto typesRawSpec)

/-- 'sorteslaw14.TypesEntrants', WHERE WHAT IT READS IS OF BULK AT MOST 1048576: true; the input reads as it did. -/
def typesEntrantsUptoRow : OpenClaim := { program := "ytaejnhgnacgheaa", sum := "aa5928153ebdbae078a4c1302a6419a28b0431cb6e5a7e2512c1ca9526c52ce4", func := "sortes/sorteslaw14.TypesEntrants", spec := "typesEntrants", unfollowed := true, recurses := true, apart := false, narrowed := true }
def TypesEntrantsUptoSaid : Prop := typesEntrantsUptoRow.holds Try.pinned (OpenSpec.upto typesEntrantsSpec)

/-- 'sorteslaw14.TypesLess', WHERE WHAT IT READS IS OF BULK AT MOST 1048576: true; the input reads as it did. -/
def typesLessUptoRow : OpenClaim := { program := "ytaejnhgnacgheaa", sum := "aa5928153ebdbae078a4c1302a6419a28b0431cb6e5a7e2512c1ca9526c52ce4", func := "sortes/sorteslaw14.TypesLess", spec := "typesLess", unfollowed := true, recurses := true, apart := false, narrowed := true }
def TypesLessUptoSaid : Prop := typesLessUptoRow.holds Try.pinned (OpenSpec.upto typesLessSpec)

/-- 'sorteslaw14.TypesAdmits', WHERE WHAT IT READS IS OF BULK AT MOST 1048576: true; the input reads as it did. -/
def typesAdmitsUptoRow : OpenClaim := { program := "ytaejnhgnacgheaa", sum := "aa5928153ebdbae078a4c1302a6419a28b0431cb6e5a7e2512c1ca9526c52ce4", func := "sortes/sorteslaw14.TypesAdmits", spec := "typesAdmits", unfollowed := true, recurses := true, apart := false, narrowed := true }
def TypesAdmitsUptoSaid : Prop := typesAdmitsUptoRow.holds Try.pinned (OpenSpec.upto typesAdmitsSpec)

/-- 'sorteslaw14.TypesAgain', WHERE WHAT IT READS IS OF BULK AT MOST 1048576: true; the input reads as it did. -/
def typesAgainUptoRow : OpenClaim := { program := "ytaejnhgnacgheaa", sum := "aa5928153ebdbae078a4c1302a6419a28b0431cb6e5a7e2512c1ca9526c52ce4", func := "sortes/sorteslaw14.TypesAgain", spec := "typesAgain", unfollowed := true, recurses := true, apart := false, narrowed := true }
def TypesAgainUptoSaid : Prop := typesAgainUptoRow.holds Try.pinned (OpenSpec.upto typesAgainSpec)

/-- 'sorteslaw14.TypesOwn', WHERE WHAT IT READS IS OF BULK AT MOST 1048576: true; the input reads as it did. -/
def typesOwnUptoRow : OpenClaim := { program := "ytaejnhgnacgheaa", sum := "aa5928153ebdbae078a4c1302a6419a28b0431cb6e5a7e2512c1ca9526c52ce4", func := "sortes/sorteslaw14.TypesOwn", spec := "typesOwn", unfollowed := true, recurses := true, apart := false, narrowed := true }
def TypesOwnUptoSaid : Prop := typesOwnUptoRow.holds Try.pinned (OpenSpec.upto typesOwnSpec)

end Rows
end Go.Proofs.Ytaejnhgnacgheaa
