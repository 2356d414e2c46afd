/-
  No cell of these rows narrows 'for every input' (looked for: loops, veiled, ifaces, maps, wideKeys, modest, calm, conditions, laid).
  DERIVED. THE GIVEN ROWS OF THIS SEAT. 11 by the template 'for every input the law returns true; each argument reads behind the call as it read before'; 0 by the template 'total and deterministic' (their statements: YtkmocikcohhdoaaTotals.lean).
  GIVEN WITH THE SEED: the statements are not yours to turn. If you find one false, say at which input.
  Laid BY PROGRAM, IN A SANDBOX (cutbox-rows.mjs): the forced cells as the released guide's own fill.sh prints them over the translation abd56a090b1f403e… (all of the seat's roots in one cut). By AI agents, Wed Nov 11 2026. No macro, syntax, notation, axiom, sorry.
-/
import Derived.Test.YtkmocikcohhdoaaChecked
import GoSem.Claim
import GoSem.ClaimJoined
import GoSem.ClaimMapViews
import Derived.JoinedTies
import Derived.KernelRfl
namespace Go.Proofs.Ytkmocikcohhdoaa
/- THE CELL 'sum', in the pinned program and in every row, IS THE sha256 OF THE DUMP (.gsa) THAT YtkmocikcohhdoaaProg.lean LOADS. Nothing in Lean hashes anything: it is a label: what it is worth is what the hold of that sum in a sandbox is worth. -/
noncomputable def Try.pinned : Pinned := { name := "ytkmocikcohhdoaa", sum := "abd56a090b1f403e3e6d36c3db4220d88c069fb93f10b69bf4366df0d665f269", checked := Try.checked }
namespace Rows
def none {H : Type} : Left H := { results := [], args := [] }

/-- 'aflajlaw02.GalleryCleans': WHATEVER THE INPUT: true; the input reads as it did. -/
def galleryCleansSpec : ChangeSpec := { name := "galleryCleans", fn := fun _ => fun
  | [d1, d2, d3] => { results := [.lit (.bool true)], args := [d1, d2, d3] }
  | _ => none }
def galleryCleansRow : OpenClaim := { program := "ytkmocikcohhdoaa", sum := "abd56a090b1f403e3e6d36c3db4220d88c069fb93f10b69bf4366df0d665f269", func := "aflaj/aflajlaw02.GalleryCleans", spec := "galleryCleans", unfollowed := true, recurses := true, apart := false }
def GalleryCleansSaid : Prop := galleryCleansRow.holds Try.pinned (OpenSpec.ofChange galleryCleansSpec)

/-- ITS FALSE NEIGHBOUR: 'it returns false'. Refute it at one input. -/
def galleryCleansWrong : ChangeSpec := { name := "galleryCleans", fn := fun _ => fun
  | [d1, d2, d3] => { results := [.lit (.bool false)], args := [d1, d2, d3] }
  | _ => none }
def GalleryCleansWrongFalsely : Prop := galleryCleansRow.holds Try.pinned (OpenSpec.ofChange galleryCleansWrong)

/-- 'aflajlaw02.GallerySources': WHATEVER THE INPUT: true; the input reads as it did. -/
def gallerySourcesSpec : ChangeSpec := { name := "gallerySources", fn := fun _ => fun
  | [d1, d2, d3, d4, d5] => { results := [.lit (.bool true)], args := [d1, d2, d3, d4, d5] }
  | _ => none }
def gallerySourcesRow : OpenClaim := { program := "ytkmocikcohhdoaa", sum := "abd56a090b1f403e3e6d36c3db4220d88c069fb93f10b69bf4366df0d665f269", func := "aflaj/aflajlaw02.GallerySources", spec := "gallerySources", unfollowed := true, recurses := true, apart := false }
def GallerySourcesSaid : Prop := gallerySourcesRow.holds Try.pinned (OpenSpec.ofChange gallerySourcesSpec)

/-- ITS FALSE NEIGHBOUR: 'it returns false'. Refute it at one input. -/
def gallerySourcesWrong : ChangeSpec := { name := "gallerySources", fn := fun _ => fun
  | [d1, d2, d3, d4, d5] => { results := [.lit (.bool false)], args := [d1, d2, d3, d4, d5] }
  | _ => none }
def GallerySourcesWrongFalsely : Prop := gallerySourcesRow.holds Try.pinned (OpenSpec.ofChange gallerySourcesWrong)

/-- 'aflajlaw02.GalleryFalls': WHATEVER THE INPUT: true; the input reads as it did. -/
def galleryFallsSpec : ChangeSpec := { name := "galleryFalls", fn := fun _ => fun
  | [d1, d2, d3, d4] => { results := [.lit (.bool true)], args := [d1, d2, d3, d4] }
  | _ => none }
def galleryFallsRow : OpenClaim := { program := "ytkmocikcohhdoaa", sum := "abd56a090b1f403e3e6d36c3db4220d88c069fb93f10b69bf4366df0d665f269", func := "aflaj/aflajlaw02.GalleryFalls", spec := "galleryFalls", unfollowed := true, recurses := true, apart := false }
def GalleryFallsSaid : Prop := galleryFallsRow.holds Try.pinned (OpenSpec.ofChange galleryFallsSpec)

/-- ITS FALSE NEIGHBOUR: 'it returns false'. Refute it at one input. -/
def galleryFallsWrong : ChangeSpec := { name := "galleryFalls", fn := fun _ => fun
  | [d1, d2, d3, d4] => { results := [.lit (.bool false)], args := [d1, d2, d3, d4] }
  | _ => none }
def GalleryFallsWrongFalsely : Prop := galleryFallsRow.holds Try.pinned (OpenSpec.ofChange galleryFallsWrong)

/-- 'aflajlaw02.GalleryExamples': WHATEVER THE INPUT: true; the input reads as it did. -/
def galleryExamplesSpec : ChangeSpec := { name := "galleryExamples", fn := fun _ => fun
  | [] => { results := [.lit (.bool true)], args := [] }
  | _ => none }
def galleryExamplesRow : OpenClaim := { program := "ytkmocikcohhdoaa", sum := "abd56a090b1f403e3e6d36c3db4220d88c069fb93f10b69bf4366df0d665f269", func := "aflaj/aflajlaw02.GalleryExamples", spec := "galleryExamples", unfollowed := true, recurses := true, apart := false }
def GalleryExamplesSaid : Prop := galleryExamplesRow.holds Try.pinned (OpenSpec.ofChange galleryExamplesSpec)

/-- ITS FALSE NEIGHBOUR: 'it returns false'. Refute it at one input. -/
def galleryExamplesWrong : ChangeSpec := { name := "galleryExamples", fn := fun _ => fun
  | [] => { results := [.lit (.bool false)], args := [] }
  | _ => none }
def GalleryExamplesWrongFalsely : Prop := galleryExamplesRow.holds Try.pinned (OpenSpec.ofChange galleryExamplesWrong)

/-- 'aflajlaw02.GalleryTrue': WHATEVER THE INPUT: true; the input reads as it did. -/
def galleryTrueSpec : ChangeSpec := { name := "galleryTrue", fn := fun _ => fun
  | [d1, d2, d3, d4] => { results := [.lit (.bool true)], args := [d1, d2, d3, d4] }
  | _ => none }
def galleryTrueRow : OpenClaim := { program := "ytkmocikcohhdoaa", sum := "abd56a090b1f403e3e6d36c3db4220d88c069fb93f10b69bf4366df0d665f269", func := "aflaj/aflajlaw02.GalleryTrue", spec := "galleryTrue", unfollowed := true, recurses := true, apart := false }
def GalleryTrueSaid : Prop := galleryTrueRow.holds Try.pinned (OpenSpec.ofChange galleryTrueSpec)

/-- ITS FALSE NEIGHBOUR: 'it returns false'. Refute it at one input. -/
def galleryTrueWrong : ChangeSpec := { name := "galleryTrue", fn := fun _ => fun
  | [d1, d2, d3, d4] => { results := [.lit (.bool false)], args := [d1, d2, d3, d4] }
  | _ => none }
def GalleryTrueWrongFalsely : Prop := galleryTrueRow.holds Try.pinned (OpenSpec.ofChange galleryTrueWrong)

/-- 'aflajlaw02.GalleryReached': WHATEVER THE INPUT: true; the input reads as it did. -/
def galleryReachedSpec : ChangeSpec := { name := "galleryReached", fn := fun _ => fun
  | [d1, d2, d3, d4] => { results := [.lit (.bool true)], args := [d1, d2, d3, d4] }
  | _ => none }
def galleryReachedRow : OpenClaim := { program := "ytkmocikcohhdoaa", sum := "abd56a090b1f403e3e6d36c3db4220d88c069fb93f10b69bf4366df0d665f269", func := "aflaj/aflajlaw02.GalleryReached", spec := "galleryReached", unfollowed := true, recurses := true, apart := false }
def GalleryReachedSaid : Prop := galleryReachedRow.holds Try.pinned (OpenSpec.ofChange galleryReachedSpec)

/-- ITS FALSE NEIGHBOUR: 'it returns false'. Refute it at one input. -/
def galleryReachedWrong : ChangeSpec := { name := "galleryReached", fn := fun _ => fun
  | [d1, d2, d3, d4] => { results := [.lit (.bool false)], args := [d1, d2, d3, d4] }
  | _ => none }
def GalleryReachedWrongFalsely : Prop := galleryReachedRow.holds Try.pinned (OpenSpec.ofChange galleryReachedWrong)

/-- 'aflajlaw02.GalleryFall': WHATEVER THE INPUT: true; the input reads as it did. -/
def galleryFallSpec : ChangeSpec := { name := "galleryFall", fn := fun _ => fun
  | [d1, d2, d3, d4, d5, d6] => { results := [.lit (.bool true)], args := [d1, d2, d3, d4, d5, d6] }
  | _ => none }
def galleryFallRow : OpenClaim := { program := "ytkmocikcohhdoaa", sum := "abd56a090b1f403e3e6d36c3db4220d88c069fb93f10b69bf4366df0d665f269", func := "aflaj/aflajlaw02.GalleryFall", spec := "galleryFall", unfollowed := true, recurses := true, apart := false }
def GalleryFallSaid : Prop := galleryFallRow.holds Try.pinned (OpenSpec.ofChange galleryFallSpec)

/-- ITS FALSE NEIGHBOUR: 'it returns false'. Refute it at one input. -/
def galleryFallWrong : ChangeSpec := { name := "galleryFall", fn := fun _ => fun
  | [d1, d2, d3, d4, d5, d6] => { results := [.lit (.bool false)], args := [d1, d2, d3, d4, d5, d6] }
  | _ => none }
def GalleryFallWrongFalsely : Prop := galleryFallRow.holds Try.pinned (OpenSpec.ofChange galleryFallWrong)

/-- 'aflajlaw02.GalleryNext': WHATEVER THE INPUT: true; the input reads as it did. -/
def galleryNextSpec : ChangeSpec := { name := "galleryNext", fn := fun _ => fun
  | [d1, d2, d3, d4, d5, d6, d7] => { results := [.lit (.bool true)], args := [d1, d2, d3, d4, d5, d6, d7] }
  | _ => none }
def galleryNextRow : OpenClaim := { program := "ytkmocikcohhdoaa", sum := "abd56a090b1f403e3e6d36c3db4220d88c069fb93f10b69bf4366df0d665f269", func := "aflaj/aflajlaw02.GalleryNext", spec := "galleryNext", unfollowed := true, recurses := true, apart := false }
def GalleryNextSaid : Prop := galleryNextRow.holds Try.pinned (OpenSpec.ofChange galleryNextSpec)

/-- ITS FALSE NEIGHBOUR: 'it returns false'. Refute it at one input. -/
def galleryNextWrong : ChangeSpec := { name := "galleryNext", fn := fun _ => fun
  | [d1, d2, d3, d4, d5, d6, d7] => { results := [.lit (.bool false)], args := [d1, d2, d3, d4, d5, d6, d7] }
  | _ => none }
def GalleryNextWrongFalsely : Prop := galleryNextRow.holds Try.pinned (OpenSpec.ofChange galleryNextWrong)

/-- 'aflajlaw02.GalleryCleaned': WHATEVER THE INPUT: true; the input reads as it did. -/
def galleryCleanedSpec : ChangeSpec := { name := "galleryCleaned", fn := fun _ => fun
  | [d1, d2, d3, d4] => { results := [.lit (.bool true)], args := [d1, d2, d3, d4] }
  | _ => none }
def galleryCleanedRow : OpenClaim := { program := "ytkmocikcohhdoaa", sum := "abd56a090b1f403e3e6d36c3db4220d88c069fb93f10b69bf4366df0d665f269", func := "aflaj/aflajlaw02.GalleryCleaned", spec := "galleryCleaned", unfollowed := true, recurses := true, apart := false }
def GalleryCleanedSaid : Prop := galleryCleanedRow.holds Try.pinned (OpenSpec.ofChange galleryCleanedSpec)

/-- ITS FALSE NEIGHBOUR: 'it returns false'. Refute it at one input. -/
def galleryCleanedWrong : ChangeSpec := { name := "galleryCleaned", fn := fun _ => fun
  | [d1, d2, d3, d4] => { results := [.lit (.bool false)], args := [d1, d2, d3, d4] }
  | _ => none }
def GalleryCleanedWrongFalsely : Prop := galleryCleanedRow.holds Try.pinned (OpenSpec.ofChange galleryCleanedWrong)

/-- 'aflajlaw02.GalleryRains': WHATEVER THE INPUT: true; the input reads as it did. -/
def galleryRainsSpec : ChangeSpec := { name := "galleryRains", fn := fun _ => fun
  | [d1, d2, d3, d4, d5] => { results := [.lit (.bool true)], args := [d1, d2, d3, d4, d5] }
  | _ => none }
def galleryRainsRow : OpenClaim := { program := "ytkmocikcohhdoaa", sum := "abd56a090b1f403e3e6d36c3db4220d88c069fb93f10b69bf4366df0d665f269", func := "aflaj/aflajlaw02.GalleryRains", spec := "galleryRains", unfollowed := true, recurses := true, apart := false }
def GalleryRainsSaid : Prop := galleryRainsRow.holds Try.pinned (OpenSpec.ofChange galleryRainsSpec)

/-- ITS FALSE NEIGHBOUR: 'it returns false'. Refute it at one input. -/
def galleryRainsWrong : ChangeSpec := { name := "galleryRains", fn := fun _ => fun
  | [d1, d2, d3, d4, d5] => { results := [.lit (.bool false)], args := [d1, d2, d3, d4, d5] }
  | _ => none }
def GalleryRainsWrongFalsely : Prop := galleryRainsRow.holds Try.pinned (OpenSpec.ofChange galleryRainsWrong)

/-- 'aflajlaw02.GalleryMore': WHATEVER THE INPUT: true; the input reads as it did. -/
def galleryMoreSpec : ChangeSpec := { name := "galleryMore", fn := fun _ => fun
  | [d1, d2, d3, d4, d5, d6] => { results := [.lit (.bool true)], args := [d1, d2, d3, d4, d5, d6] }
  | _ => none }
def galleryMoreRow : OpenClaim := { program := "ytkmocikcohhdoaa", sum := "abd56a090b1f403e3e6d36c3db4220d88c069fb93f10b69bf4366df0d665f269", func := "aflaj/aflajlaw02.GalleryMore", spec := "galleryMore", unfollowed := true, recurses := true, apart := false }
def GalleryMoreSaid : Prop := galleryMoreRow.holds Try.pinned (OpenSpec.ofChange galleryMoreSpec)

/-- ITS FALSE NEIGHBOUR: 'it returns false'. Refute it at one input. -/
def galleryMoreWrong : ChangeSpec := { name := "galleryMore", fn := fun _ => fun
  | [d1, d2, d3, d4, d5, d6] => { results := [.lit (.bool false)], args := [d1, d2, d3, d4, d5, d6] }
  | _ => none }
def GalleryMoreWrongFalsely : Prop := galleryMoreRow.holds Try.pinned (OpenSpec.ofChange galleryMoreWrong)

/- THE SECOND FORM. 'bulk': how many values and letters a reading holds, each counted each time it is reached (what is shared counts as often as it is met; a slice's spare places count too). A statement '..UptoSaid' is the law's where the arguments, and the package variables that the reading takes, are together of bulk at most 1048576: NARROWER than '..Said'. Prove '..Said' where nothing that the law and all that it calls make is longer than what came in: it says more and counts as full. Else prove '..UptoSaid'. A law counts once. -/
mutual
def uptoBulk {H : Type} : DataW H → Nat
  | .lit (.string bytes) => bytes.length + 1
  | .lit _ => 1
  | .nil => 1
  | .ptr d => uptoBulk d + 1
  | .slice elems spare => uptoBulkAll elems + uptoBulkAll spare + 1
  | .agg parts => uptoBulkAll parts + 1
  | .iface _ d => uptoBulk d + 1
  | .map entries => uptoBulkEntries entries + 1
  | .held _ => 1
def uptoBulkAll {H : Type} : List (DataW H) → Nat
  | [] => 0
  | d :: r => uptoBulk d + uptoBulkAll r
def uptoBulkEntries {H : Type} : List (Lit × DataW H) → Nat
  | [] => 0
  | x :: r => uptoBulkEntry x + uptoBulkEntries r
def uptoBulkEntry {H : Type} : Lit × DataW H → Nat
  | (.string bytes, d) => bytes.length + uptoBulk d + 1
  | (_, d) => uptoBulk d + 1
 end
def uptoSmall : (H : Type) → List (DataW H) → Bool := fun _ ds => decide (uptoBulkAll ds ≤ 1048576)
def OpenSpec.upto (s : _root_.Go.ChangeSpec) : _root_.Go.OpenSpec := { _root_.Go.OpenSpec.ofChange s with cond := some uptoSmall }

/-- 'aflajlaw02.GalleryCleans', WHERE WHAT IT READS IS OF BULK AT MOST 1048576: true; the input reads as it did. -/
def galleryCleansUptoRow : OpenClaim := { program := "ytkmocikcohhdoaa", sum := "abd56a090b1f403e3e6d36c3db4220d88c069fb93f10b69bf4366df0d665f269", func := "aflaj/aflajlaw02.GalleryCleans", spec := "galleryCleans", unfollowed := true, recurses := true, apart := false, narrowed := true }
def GalleryCleansUptoSaid : Prop := galleryCleansUptoRow.holds Try.pinned (OpenSpec.upto galleryCleansSpec)

/-- 'aflajlaw02.GallerySources', WHERE WHAT IT READS IS OF BULK AT MOST 1048576: true; the input reads as it did. -/
def gallerySourcesUptoRow : OpenClaim := { program := "ytkmocikcohhdoaa", sum := "abd56a090b1f403e3e6d36c3db4220d88c069fb93f10b69bf4366df0d665f269", func := "aflaj/aflajlaw02.GallerySources", spec := "gallerySources", unfollowed := true, recurses := true, apart := false, narrowed := true }
def GallerySourcesUptoSaid : Prop := gallerySourcesUptoRow.holds Try.pinned (OpenSpec.upto gallerySourcesSpec)

/-- 'aflajlaw02.GalleryFalls', WHERE WHAT IT READS IS OF BULK AT MOST 1048576: true; the input reads as it did. -/
def galleryFallsUptoRow : OpenClaim := { program := "ytkmocikcohhdoaa", sum := "abd56a090b1f403e3e6d36c3db4220d88c069fb93f10b69bf4366df0d665f269", func := "aflaj/aflajlaw02.GalleryFalls", spec := "galleryFalls", unfollowed := true, recurses := true, apart := false, narrowed := true }
def GalleryFallsUptoSaid : Prop := galleryFallsUptoRow.holds Try.pinned (OpenSpec.upto galleryFallsSpec)

/-- 'aflajlaw02.GalleryExamples', WHERE WHAT IT READS IS OF BULK AT MOST 1048576: true; the input reads as it did. -/
def galleryExamplesUptoRow : OpenClaim := { program := "ytkmocikcohhdoaa", sum := "abd56a090b1f403e3e6d36c3db4220d88c069fb93f10b69bf4366df0d665f269", func := "aflaj/aflajlaw02.GalleryExamples", spec := "galleryExamples", unfollowed := true, recurses := true, apart := false, narrowed := true }
def GalleryExamplesUptoSaid : Prop := galleryExamplesUptoRow.holds Try.pinned (OpenSpec.upto galleryExamplesSpec)

/-- 'aflajlaw02.GalleryTrue', WHERE WHAT IT READS IS OF BULK AT MOST 1048576: true; the input reads as it did. -/
def galleryTrueUptoRow : OpenClaim := { program := "ytkmocikcohhdoaa", sum := "abd56a090b1f403e3e6d36c3db4220d88c069fb93f10b69bf4366df0d665f269", func := "aflaj/aflajlaw02.GalleryTrue", spec := "galleryTrue", unfollowed := true, recurses := true, apart := false, narrowed := true }
def GalleryTrueUptoSaid : Prop := galleryTrueUptoRow.holds Try.pinned (OpenSpec.upto galleryTrueSpec)

/-- 'aflajlaw02.GalleryReached', WHERE WHAT IT READS IS OF BULK AT MOST 1048576: true; the input reads as it did. -/
def galleryReachedUptoRow : OpenClaim := { program := "ytkmocikcohhdoaa", sum := "abd56a090b1f403e3e6d36c3db4220d88c069fb93f10b69bf4366df0d665f269", func := "aflaj/aflajlaw02.GalleryReached", spec := "galleryReached", unfollowed := true, recurses := true, apart := false, narrowed := true }
def GalleryReachedUptoSaid : Prop := galleryReachedUptoRow.holds Try.pinned (OpenSpec.upto galleryReachedSpec)

/-- 'aflajlaw02.GalleryFall', WHERE WHAT IT READS IS OF BULK AT MOST 1048576: true; the input reads as it did. -/
def galleryFallUptoRow : OpenClaim := { program := "ytkmocikcohhdoaa", sum := "abd56a090b1f403e3e6d36c3db4220d88c069fb93f10b69bf4366df0d665f269", func := "aflaj/aflajlaw02.GalleryFall", spec := "galleryFall", unfollowed := true, recurses := true, apart := false, narrowed := true }
def GalleryFallUptoSaid : Prop := galleryFallUptoRow.holds Try.pinned (OpenSpec.upto galleryFallSpec)

/-- 'aflajlaw02.GalleryNext', WHERE WHAT IT READS IS OF BULK AT MOST 1048576: true; the input reads as it did. -/
def galleryNextUptoRow : OpenClaim := { program := "ytkmocikcohhdoaa", sum := "abd56a090b1f403e3e6d36c3db4220d88c069fb93f10b69bf4366df0d665f269", func := "aflaj/aflajlaw02.GalleryNext", spec := "galleryNext", unfollowed := true, recurses := true, apart := false, narrowed := true }
def GalleryNextUptoSaid : Prop := galleryNextUptoRow.holds Try.pinned (OpenSpec.upto galleryNextSpec)

/-- 'aflajlaw02.GalleryCleaned', WHERE WHAT IT READS IS OF BULK AT MOST 1048576: true; the input reads as it did. -/
def galleryCleanedUptoRow : OpenClaim := { program := "ytkmocikcohhdoaa", sum := "abd56a090b1f403e3e6d36c3db4220d88c069fb93f10b69bf4366df0d665f269", func := "aflaj/aflajlaw02.GalleryCleaned", spec := "galleryCleaned", unfollowed := true, recurses := true, apart := false, narrowed := true }
def GalleryCleanedUptoSaid : Prop := galleryCleanedUptoRow.holds Try.pinned (OpenSpec.upto galleryCleanedSpec)

/-- 'aflajlaw02.GalleryRains', WHERE WHAT IT READS IS OF BULK AT MOST 1048576: true; the input reads as it did. -/
def galleryRainsUptoRow : OpenClaim := { program := "ytkmocikcohhdoaa", sum := "abd56a090b1f403e3e6d36c3db4220d88c069fb93f10b69bf4366df0d665f269", func := "aflaj/aflajlaw02.GalleryRains", spec := "galleryRains", unfollowed := true, recurses := true, apart := false, narrowed := true }
def GalleryRainsUptoSaid : Prop := galleryRainsUptoRow.holds Try.pinned (OpenSpec.upto galleryRainsSpec)

/-- 'aflajlaw02.GalleryMore', WHERE WHAT IT READS IS OF BULK AT MOST 1048576: true; the input reads as it did. -/
def galleryMoreUptoRow : OpenClaim := { program := "ytkmocikcohhdoaa", sum := "abd56a090b1f403e3e6d36c3db4220d88c069fb93f10b69bf4366df0d665f269", func := "aflaj/aflajlaw02.GalleryMore", spec := "galleryMore", unfollowed := true, recurses := true, apart := false, narrowed := true }
def GalleryMoreUptoSaid : Prop := galleryMoreUptoRow.holds Try.pinned (OpenSpec.upto galleryMoreSpec)

end Rows
end Go.Proofs.Ytkmocikcohhdoaa
