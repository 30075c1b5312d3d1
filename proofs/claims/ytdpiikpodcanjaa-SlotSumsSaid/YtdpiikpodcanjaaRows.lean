/-
  No cell of these rows narrows 'for every input' (looked for: loops, veiled, ifaces, maps, wideKeys, modest, calm, conditions, laid).
  DERIVED. THE GIVEN ROWS OF THIS SEAT. 11 by the template 'for every input the law returns true; each argument reads behind the call as it read before'; 0 by the template 'total and deterministic' (their statements: YtdpiikpodcanjaaTotals.lean).
  GIVEN WITH THE SEED: the statements are not yours to turn. If you find one false, say at which input.
  Laid BY PROGRAM, IN A SANDBOX (cutbox-rows.mjs): the forced cells as the released guide's own fill.sh prints them over the translation b7e93ef36a7bbf08… (all of the seat's roots in one cut). By AI agents, Wed Nov 11 2026. No macro, syntax, notation, axiom, sorry.
-/
import Derived.Test.YtdpiikpodcanjaaChecked
import GoSem.Claim
import GoSem.ClaimJoined
import GoSem.ClaimMapViews
import Derived.JoinedTies
import Derived.KernelRfl
namespace Go.Proofs.Ytdpiikpodcanjaa
/- THE CELL 'sum', in the pinned program and in every row, IS THE sha256 OF THE DUMP (.gsa) THAT YtdpiikpodcanjaaProg.lean LOADS. Nothing in Lean hashes anything: it is a label: what it is worth is what the hold of that sum in a sandbox is worth. -/
noncomputable def Try.pinned : Pinned := { name := "ytdpiikpodcanjaa", sum := "b7e93ef36a7bbf08345a1bdcf954448526436607829caec13c008dcadc4d4780", checked := Try.checked }
namespace Rows
def none {H : Type} : Left H := { results := [], args := [] }

/-- 'cyanotypelaw06.ColorPixels': WHATEVER THE INPUT: true; the input reads as it did. -/
def colorPixelsSpec : ChangeSpec := { name := "colorPixels", fn := fun _ => fun
  | [d1, d2, d3, d4, d5, d6] => { results := [.lit (.bool true)], args := [d1, d2, d3, d4, d5, d6] }
  | _ => none }
def colorPixelsRow : OpenClaim := { program := "ytdpiikpodcanjaa", sum := "b7e93ef36a7bbf08345a1bdcf954448526436607829caec13c008dcadc4d4780", func := "cyanotype/cyanotypelaw06.ColorPixels", spec := "colorPixels", unfollowed := true, recurses := true, apart := false }
def ColorPixelsSaid : Prop := colorPixelsRow.holds Try.pinned (OpenSpec.ofChange colorPixelsSpec)

/-- ITS FALSE NEIGHBOUR: 'it returns false'. Refute it at one input. -/
def colorPixelsWrong : ChangeSpec := { name := "colorPixels", fn := fun _ => fun
  | [d1, d2, d3, d4, d5, d6] => { results := [.lit (.bool false)], args := [d1, d2, d3, d4, d5, d6] }
  | _ => none }
def ColorPixelsWrongFalsely : Prop := colorPixelsRow.holds Try.pinned (OpenSpec.ofChange colorPixelsWrong)

/-- 'cyanotypelaw06.ColorGray': WHATEVER THE INPUT: true; the input reads as it did. -/
def colorGraySpec : ChangeSpec := { name := "colorGray", fn := fun _ => fun
  | [d] => { results := [.lit (.bool true)], args := [d] }
  | _ => none }
def colorGrayRow : OpenClaim := { program := "ytdpiikpodcanjaa", sum := "b7e93ef36a7bbf08345a1bdcf954448526436607829caec13c008dcadc4d4780", func := "cyanotype/cyanotypelaw06.ColorGray", spec := "colorGray", unfollowed := true, recurses := true, apart := false }
def ColorGraySaid : Prop := colorGrayRow.holds Try.pinned (OpenSpec.ofChange colorGraySpec)

/-- ITS FALSE NEIGHBOUR: 'it returns false'. Refute it at one input. -/
def colorGrayWrong : ChangeSpec := { name := "colorGray", fn := fun _ => fun
  | [d] => { results := [.lit (.bool false)], args := [d] }
  | _ => none }
def ColorGrayWrongFalsely : Prop := colorGrayRow.holds Try.pinned (OpenSpec.ofChange colorGrayWrong)

/-- 'cyanotypelaw06.ColorNear': WHATEVER THE INPUT: true; the input reads as it did. -/
def colorNearSpec : ChangeSpec := { name := "colorNear", fn := fun _ => fun
  | [d1, d2, d3] => { results := [.lit (.bool true)], args := [d1, d2, d3] }
  | _ => none }
def colorNearRow : OpenClaim := { program := "ytdpiikpodcanjaa", sum := "b7e93ef36a7bbf08345a1bdcf954448526436607829caec13c008dcadc4d4780", func := "cyanotype/cyanotypelaw06.ColorNear", spec := "colorNear", unfollowed := true, recurses := true, apart := false }
def ColorNearSaid : Prop := colorNearRow.holds Try.pinned (OpenSpec.ofChange colorNearSpec)

/-- ITS FALSE NEIGHBOUR: 'it returns false'. Refute it at one input. -/
def colorNearWrong : ChangeSpec := { name := "colorNear", fn := fun _ => fun
  | [d1, d2, d3] => { results := [.lit (.bool false)], args := [d1, d2, d3] }
  | _ => none }
def ColorNearWrongFalsely : Prop := colorNearRow.holds Try.pinned (OpenSpec.ofChange colorNearWrong)

/-- 'cyanotypelaw06.ColorClips': WHATEVER THE INPUT: true; the input reads as it did. -/
def colorClipsSpec : ChangeSpec := { name := "colorClips", fn := fun _ => fun
  | [d1, d2, d3] => { results := [.lit (.bool true)], args := [d1, d2, d3] }
  | _ => none }
def colorClipsRow : OpenClaim := { program := "ytdpiikpodcanjaa", sum := "b7e93ef36a7bbf08345a1bdcf954448526436607829caec13c008dcadc4d4780", func := "cyanotype/cyanotypelaw06.ColorClips", spec := "colorClips", unfollowed := true, recurses := true, apart := false }
def ColorClipsSaid : Prop := colorClipsRow.holds Try.pinned (OpenSpec.ofChange colorClipsSpec)

/-- ITS FALSE NEIGHBOUR: 'it returns false'. Refute it at one input. -/
def colorClipsWrong : ChangeSpec := { name := "colorClips", fn := fun _ => fun
  | [d1, d2, d3] => { results := [.lit (.bool false)], args := [d1, d2, d3] }
  | _ => none }
def ColorClipsWrongFalsely : Prop := colorClipsRow.holds Try.pinned (OpenSpec.ofChange colorClipsWrong)

/-- 'cyanotypelaw06.ColorBright': WHATEVER THE INPUT: true; the input reads as it did. -/
def colorBrightSpec : ChangeSpec := { name := "colorBright", fn := fun _ => fun
  | [d1, d2, d3, d4, d5] => { results := [.lit (.bool true)], args := [d1, d2, d3, d4, d5] }
  | _ => none }
def colorBrightRow : OpenClaim := { program := "ytdpiikpodcanjaa", sum := "b7e93ef36a7bbf08345a1bdcf954448526436607829caec13c008dcadc4d4780", func := "cyanotype/cyanotypelaw06.ColorBright", spec := "colorBright", unfollowed := true, recurses := true, apart := false }
def ColorBrightSaid : Prop := colorBrightRow.holds Try.pinned (OpenSpec.ofChange colorBrightSpec)

/-- ITS FALSE NEIGHBOUR: 'it returns false'. Refute it at one input. -/
def colorBrightWrong : ChangeSpec := { name := "colorBright", fn := fun _ => fun
  | [d1, d2, d3, d4, d5] => { results := [.lit (.bool false)], args := [d1, d2, d3, d4, d5] }
  | _ => none }
def ColorBrightWrongFalsely : Prop := colorBrightRow.holds Try.pinned (OpenSpec.ofChange colorBrightWrong)

/-- 'cyanotypelaw14.SlotWorst': WHATEVER THE INPUT: true; the input reads as it did. -/
def slotWorstSpec : ChangeSpec := { name := "slotWorst", fn := fun _ => fun
  | [d1, d2, d3] => { results := [.lit (.bool true)], args := [d1, d2, d3] }
  | _ => none }
def slotWorstRow : OpenClaim := { program := "ytdpiikpodcanjaa", sum := "b7e93ef36a7bbf08345a1bdcf954448526436607829caec13c008dcadc4d4780", func := "cyanotype/cyanotypelaw14.SlotWorst", spec := "slotWorst", unfollowed := true, recurses := true, apart := false }
def SlotWorstSaid : Prop := slotWorstRow.holds Try.pinned (OpenSpec.ofChange slotWorstSpec)

/-- ITS FALSE NEIGHBOUR: 'it returns false'. Refute it at one input. -/
def slotWorstWrong : ChangeSpec := { name := "slotWorst", fn := fun _ => fun
  | [d1, d2, d3] => { results := [.lit (.bool false)], args := [d1, d2, d3] }
  | _ => none }
def SlotWorstWrongFalsely : Prop := slotWorstRow.holds Try.pinned (OpenSpec.ofChange slotWorstWrong)

/-- 'cyanotypelaw14.SlotRefuses': WHATEVER THE INPUT: true; the input reads as it did. -/
def slotRefusesSpec : ChangeSpec := { name := "slotRefuses", fn := fun _ => fun
  | [d1, d2, d3, d4, d5, d6, d7, d8] => { results := [.lit (.bool true)], args := [d1, d2, d3, d4, d5, d6, d7, d8] }
  | _ => none }
def slotRefusesRow : OpenClaim := { program := "ytdpiikpodcanjaa", sum := "b7e93ef36a7bbf08345a1bdcf954448526436607829caec13c008dcadc4d4780", func := "cyanotype/cyanotypelaw14.SlotRefuses", spec := "slotRefuses", unfollowed := true, recurses := true, apart := false }
def SlotRefusesSaid : Prop := slotRefusesRow.holds Try.pinned (OpenSpec.ofChange slotRefusesSpec)

/-- ITS FALSE NEIGHBOUR: 'it returns false'. Refute it at one input. -/
def slotRefusesWrong : ChangeSpec := { name := "slotRefuses", fn := fun _ => fun
  | [d1, d2, d3, d4, d5, d6, d7, d8] => { results := [.lit (.bool false)], args := [d1, d2, d3, d4, d5, d6, d7, d8] }
  | _ => none }
def SlotRefusesWrongFalsely : Prop := slotRefusesRow.holds Try.pinned (OpenSpec.ofChange slotRefusesWrong)

/-- 'cyanotypelaw14.SlotParts': WHATEVER THE INPUT: true; the input reads as it did. -/
def slotPartsSpec : ChangeSpec := { name := "slotParts", fn := fun _ => fun
  | [d] => { results := [.lit (.bool true)], args := [d] }
  | _ => none }
def slotPartsRow : OpenClaim := { program := "ytdpiikpodcanjaa", sum := "b7e93ef36a7bbf08345a1bdcf954448526436607829caec13c008dcadc4d4780", func := "cyanotype/cyanotypelaw14.SlotParts", spec := "slotParts", unfollowed := true, recurses := true, apart := false }
def SlotPartsSaid : Prop := slotPartsRow.holds Try.pinned (OpenSpec.ofChange slotPartsSpec)

/-- ITS FALSE NEIGHBOUR: 'it returns false'. Refute it at one input. -/
def slotPartsWrong : ChangeSpec := { name := "slotParts", fn := fun _ => fun
  | [d] => { results := [.lit (.bool false)], args := [d] }
  | _ => none }
def SlotPartsWrongFalsely : Prop := slotPartsRow.holds Try.pinned (OpenSpec.ofChange slotPartsWrong)

/-- 'cyanotypelaw06.ColorSecrets': WHATEVER THE INPUT: true; the input reads as it did. -/
def colorSecretsSpec : ChangeSpec := { name := "colorSecrets", fn := fun _ => fun
  | [d1, d2, d3, d4, d5, d6] => { results := [.lit (.bool true)], args := [d1, d2, d3, d4, d5, d6] }
  | _ => none }
def colorSecretsRow : OpenClaim := { program := "ytdpiikpodcanjaa", sum := "b7e93ef36a7bbf08345a1bdcf954448526436607829caec13c008dcadc4d4780", func := "cyanotype/cyanotypelaw06.ColorSecrets", spec := "colorSecrets", unfollowed := true, recurses := true, apart := false }
def ColorSecretsSaid : Prop := colorSecretsRow.holds Try.pinned (OpenSpec.ofChange colorSecretsSpec)

/-- ITS FALSE NEIGHBOUR: 'it returns false'. Refute it at one input. -/
def colorSecretsWrong : ChangeSpec := { name := "colorSecrets", fn := fun _ => fun
  | [d1, d2, d3, d4, d5, d6] => { results := [.lit (.bool false)], args := [d1, d2, d3, d4, d5, d6] }
  | _ => none }
def ColorSecretsWrongFalsely : Prop := colorSecretsRow.holds Try.pinned (OpenSpec.ofChange colorSecretsWrong)

/-- 'cyanotypelaw14.SlotTells': WHATEVER THE INPUT: true; the input reads as it did. -/
def slotTellsSpec : ChangeSpec := { name := "slotTells", fn := fun _ => fun
  | [d1, d2, d3, d4, d5, d6, d7, d8, d9, d10] => { results := [.lit (.bool true)], args := [d1, d2, d3, d4, d5, d6, d7, d8, d9, d10] }
  | _ => none }
def slotTellsRow : OpenClaim := { program := "ytdpiikpodcanjaa", sum := "b7e93ef36a7bbf08345a1bdcf954448526436607829caec13c008dcadc4d4780", func := "cyanotype/cyanotypelaw14.SlotTells", spec := "slotTells", unfollowed := true, recurses := true, apart := false }
def SlotTellsSaid : Prop := slotTellsRow.holds Try.pinned (OpenSpec.ofChange slotTellsSpec)

/-- ITS FALSE NEIGHBOUR: 'it returns false'. Refute it at one input. -/
def slotTellsWrong : ChangeSpec := { name := "slotTells", fn := fun _ => fun
  | [d1, d2, d3, d4, d5, d6, d7, d8, d9, d10] => { results := [.lit (.bool false)], args := [d1, d2, d3, d4, d5, d6, d7, d8, d9, d10] }
  | _ => none }
def SlotTellsWrongFalsely : Prop := slotTellsRow.holds Try.pinned (OpenSpec.ofChange slotTellsWrong)

/-- 'cyanotypelaw14.SlotSums': WHATEVER THE INPUT: true; the input reads as it did. -/
def slotSumsSpec : ChangeSpec := { name := "slotSums", fn := fun _ => fun
  | [d1, d2, d3, d4, d5, d6] => { results := [.lit (.bool true)], args := [d1, d2, d3, d4, d5, d6] }
  | _ => none }
def slotSumsRow : OpenClaim := { program := "ytdpiikpodcanjaa", sum := "b7e93ef36a7bbf08345a1bdcf954448526436607829caec13c008dcadc4d4780", func := "cyanotype/cyanotypelaw14.SlotSums", spec := "slotSums", unfollowed := true, recurses := true, apart := false }
def SlotSumsSaid : Prop := slotSumsRow.holds Try.pinned (OpenSpec.ofChange slotSumsSpec)

/-- ITS FALSE NEIGHBOUR: 'it returns false'. Refute it at one input. -/
def slotSumsWrong : ChangeSpec := { name := "slotSums", fn := fun _ => fun
  | [d1, d2, d3, d4, d5, d6] => { results := [.lit (.bool false)], args := [d1, d2, d3, d4, d5, d6] }
  | _ => none }
def SlotSumsWrongFalsely : Prop := slotSumsRow.holds Try.pinned (OpenSpec.ofChange slotSumsWrong)

/- THE SECOND FORM. 'bulk': how many values and letters a reading holds, each counted each time it is reached (what is shared counts as often as it is met; a slice's spare places count too). A statement '..UptoSaid' is the law's where the arguments, and the package variables that the reading takes, are together of bulk at most 1048576: NARROWER than '..Said'. Prove '..Said' where nothing that the law and all that it calls make is longer than what came in: it says more and counts as full. Else prove '..UptoSaid'. A law counts once. -/
mutual
def uptoBulk {H : Type} : DataW H → Nat
  | .lit (.string bytes) => bytes.length + 1
  | .lit _ => 1
  | .nil => 1
  | .ptr d => uptoBulk d + 1
  | .slice elems spare => uptoBulkAll elems + uptoBulkAll spare + 1
  | .agg parts => uptoBulkAll parts + 1
  | .iface _ d => uptoBulk d + 1
  | .map entries => uptoBulkEntries entries + 1
  | .held _ => 1
def uptoBulkAll {H : Type} : List (DataW H) → Nat
  | [] => 0
  | d :: r => uptoBulk d + uptoBulkAll r
def uptoBulkEntries {H : Type} : List (Lit × DataW H) → Nat
  | [] => 0
  | x :: r => uptoBulkEntry x + uptoBulkEntries r
def uptoBulkEntry {H : Type} : Lit × DataW H → Nat
  | (.string bytes, d) => bytes.length + uptoBulk d + 1
  | (_, d) => uptoBulk d + 1
 end
def uptoSmall : (H : Type) → List (DataW H) → Bool := fun _ ds => decide (uptoBulkAll ds ≤ 1048576)
def OpenSpec.upto (s : _root_.Go.ChangeSpec) : _root_.Go.OpenSpec := { _root_.Go.OpenSpec.ofChange s with cond := some uptoSmall }

/-- 'cyanotypelaw06.ColorPixels', WHERE WHAT IT READS IS OF BULK AT MOST 1048576: true; the input reads as it did. -/
def colorPixelsUptoRow : OpenClaim := { program := "ytdpiikpodcanjaa", sum := "b7e93ef36a7bbf08345a1bdcf954448526436607829caec13c008dcadc4d4780", func := "cyanotype/cyanotypelaw06.ColorPixels", spec := "colorPixels", unfollowed := true, recurses := true, apart := false, narrowed := true }
def ColorPixelsUptoSaid : Prop := colorPixelsUptoRow.holds Try.pinned (OpenSpec.upto colorPixelsSpec)

/-- 'cyanotypelaw06.ColorGray', WHERE WHAT IT READS IS OF BULK AT MOST 1048576: true; the input reads as it did. -/
def colorGrayUptoRow : OpenClaim := { program := "ytdpiikpodcanjaa", sum := "b7e93ef36a7bbf08345a1bdcf954448526436607829caec13c008dcadc4d4780", func := "cyanotype/cyanotypelaw06.ColorGray", spec := "colorGray", unfollowed := true, recurses := true, apart := false, narrowed := true }
def ColorGrayUptoSaid : Prop := colorGrayUptoRow.holds Try.pinned (OpenSpec.upto colorGraySpec)

/-- 'cyanotypelaw06.ColorNear', WHERE WHAT IT READS IS OF BULK AT MOST 1048576: true; the input reads as it did. -/
def colorNearUptoRow : OpenClaim := { program := "ytdpiikpodcanjaa", sum := "b7e93ef36a7bbf08345a1bdcf954448526436607829caec13c008dcadc4d4780", func := "cyanotype/cyanotypelaw06.ColorNear", spec := "colorNear", unfollowed := true, recurses := true, apart := false, narrowed := true }
def ColorNearUptoSaid : Prop := colorNearUptoRow.holds Try.pinned (OpenSpec.upto colorNearSpec)

/-- 'cyanotypelaw06.ColorClips', WHERE WHAT IT READS IS OF BULK AT MOST 1048576: true; the input reads as it did. -/
def colorClipsUptoRow : OpenClaim := { program := "ytdpiikpodcanjaa", sum := "b7e93ef36a7bbf08345a1bdcf954448526436607829caec13c008dcadc4d4780", func := "cyanotype/cyanotypelaw06.ColorClips", spec := "colorClips", unfollowed := true, recurses := true, apart := false, narrowed := true }
def ColorClipsUptoSaid : Prop := colorClipsUptoRow.holds Try.pinned (OpenSpec.upto colorClipsSpec)

/-- 'cyanotypelaw06.ColorBright', WHERE WHAT IT READS IS OF BULK AT MOST 1048576: true; the input reads as it did. -/
def colorBrightUptoRow : OpenClaim := { program := "ytdpiikpodcanjaa", sum := "b7e93ef36a7bbf08345a1bdcf954448526436607829caec13c008dcadc4d4780", func := "cyanotype/cyanotypelaw06.ColorBright", spec := "colorBright", unfollowed := true, recurses := true, apart := false, narrowed := true }
def ColorBrightUptoSaid : Prop := colorBrightUptoRow.holds Try.pinned (OpenSpec.upto colorBrightSpec)

/-- 'cyanotypelaw14.SlotWorst', WHERE WHAT IT READS IS OF BULK AT MOST 1048576: true; the input reads as it did. -/
def slotWorstUptoRow : OpenClaim := { program := "ytdpiikpodcanjaa", sum := "b7e93ef36a7bbf08345a1bdcf954448526436607829caec13c008dcadc4d4780", func := "cyanotype/cyanotypelaw14.SlotWorst", spec := "slotWorst", unfollowed := true, recurses := true, apart := false, narrowed := true }
def SlotWorstUptoSaid : Prop := slotWorstUptoRow.holds Try.pinned (OpenSpec.upto slotWorstSpec)

/-- 'cyanotypelaw14.SlotRefuses', WHERE WHAT IT READS IS OF BULK AT MOST 1048576: true; the input reads as it did. -/
def slotRefusesUptoRow : OpenClaim := { program := "ytdpiikpodcanjaa", sum := "b7e93ef36a7bbf08345a1bdcf954448526436607829caec13c008dcadc4d4780", func := "cyanotype/cyanotypelaw14.SlotRefuses", spec := "slotRefuses", unfollowed := true, recurses := true, apart := false, narrowed := true }
def SlotRefusesUptoSaid : Prop := slotRefusesUptoRow.holds Try.pinned (OpenSpec.upto slotRefusesSpec)

/-- 'cyanotypelaw14.SlotParts', WHERE WHAT IT READS IS OF BULK AT MOST 1048576: true; the input reads as it did. -/
def slotPartsUptoRow : OpenClaim := { program := "ytdpiikpodcanjaa", sum := "b7e93ef36a7bbf08345a1bdcf954448526436607829caec13c008dcadc4d4780", func := "cyanotype/cyanotypelaw14.SlotParts", spec := "slotParts", unfollowed := true, recurses := true, apart := false, narrowed := true }
def SlotPartsUptoSaid : Prop := slotPartsUptoRow.holds Try.pinned (OpenSpec.upto slotPartsSpec)

/-- 'cyanotypelaw06.ColorSecrets', WHERE WHAT IT READS IS OF BULK AT MOST 1048576: true; the input reads as it did. -/
def colorSecretsUptoRow : OpenClaim := { program := "ytdpiikpodcanjaa", sum := "b7e93ef36a7bbf08345a1bdcf954448526436607829caec13c008dcadc4d4780", func := "cyanotype/cyanotypelaw06.ColorSecrets", spec := "colorSecrets", unfollowed := true, recurses := true, apart := false, narrowed := true }
def ColorSecretsUptoSaid : Prop := colorSecretsUptoRow.holds Try.pinned (OpenSpec.upto colorSecretsSpec)

/-- 'cyanotypelaw14.SlotTells', WHERE WHAT IT READS IS OF BULK AT MOST 1048576: true; the input reads as it did. -/
def slotTellsUptoRow : OpenClaim := { program := "ytdpiikpodcanjaa", sum := "b7e93ef36a7bbf08345a1bdcf954448526436607829caec13c008dcadc4d4780", func := "cyanotype/cyanotypelaw14.SlotTells", spec := "slotTells", unfollowed := true, recurses := true, apart := false, narrowed := true }
def SlotTellsUptoSaid : Prop := slotTellsUptoRow.holds Try.pinned (OpenSpec.upto slotTellsSpec)

/-- 'cyanotypelaw14.SlotSums', WHERE WHAT IT READS IS OF BULK AT MOST 1048576: true; the input reads as it did. -/
def slotSumsUptoRow : OpenClaim := { program := "ytdpiikpodcanjaa", sum := "b7e93ef36a7bbf08345a1bdcf954448526436607829caec13c008dcadc4d4780", func := "cyanotype/cyanotypelaw14.SlotSums", spec := "slotSums", unfollowed := true, recurses := true, apart := false, narrowed := true }
def SlotSumsUptoSaid : Prop := slotSumsUptoRow.holds Try.pinned (OpenSpec.upto slotSumsSpec)

end Rows
end Go.Proofs.Ytdpiikpodcanjaa
