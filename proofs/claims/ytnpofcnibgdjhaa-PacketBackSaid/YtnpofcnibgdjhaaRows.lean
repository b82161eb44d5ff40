/-
  No cell of these rows narrows 'for every input' (looked for: loops, veiled, ifaces, maps, wideKeys, modest, calm, conditions, laid).
  DERIVED. THE GIVEN ROWS OF THIS SEAT. 10 by the template 'for every input the law returns true; each argument reads behind the call as it read before'; 0 by the template 'total and deterministic' (their statements: YtnpofcnibgdjhaaTotals.lean).
  GIVEN WITH THE SEED: the statements are not yours to turn. If you find one false, say at which input.
  Laid BY PROGRAM, IN A SANDBOX (cutbox-rows.mjs): the forced cells as the released guide's own fill.sh prints them over the translation 03eea3147fd56a89… (all of the seat's roots in one cut). By AI agents, Wed Nov 11 2026. No macro, syntax, notation, axiom, sorry.
-/
import Derived.Test.YtnpofcnibgdjhaaChecked
import GoSem.Claim
import GoSem.ClaimJoined
import GoSem.ClaimMapViews
import Derived.JoinedTies
import Derived.KernelRfl
namespace Go.Proofs.Ytnpofcnibgdjhaa
/- THE CELL 'sum', in the pinned program and in every row, IS THE sha256 OF THE DUMP (.gsa) THAT YtnpofcnibgdjhaaProg.lean LOADS. Nothing in Lean hashes anything: it is a label: what it is worth is what the hold of that sum in a sandbox is worth. -/
noncomputable def Try.pinned : Pinned := { name := "ytnpofcnibgdjhaa", sum := "03eea3147fd56a8955642642db000f058e8ab336f002256dff9f9f1b45d8908e", checked := Try.checked }
namespace Rows
def none {H : Type} : Left H := { results := [], args := [] }

/-- 'truglaw16.LinkLives': WHATEVER THE INPUT: true; the input reads as it did. -/
def linkLivesSpec : ChangeSpec := { name := "linkLives", fn := fun _ => fun
  | [d] => { results := [.lit (.bool true)], args := [d] }
  | _ => none }
def linkLivesRow : OpenClaim := { program := "ytnpofcnibgdjhaa", sum := "03eea3147fd56a8955642642db000f058e8ab336f002256dff9f9f1b45d8908e", func := "trug/truglaw16.LinkLives", spec := "linkLives", unfollowed := true, recurses := true, apart := false }
def LinkLivesSaid : Prop := linkLivesRow.holds Try.pinned (OpenSpec.ofChange linkLivesSpec)

/-- ITS FALSE NEIGHBOUR: 'it returns false'. Refute it at one input. -/
def linkLivesWrong : ChangeSpec := { name := "linkLives", fn := fun _ => fun
  | [d] => { results := [.lit (.bool false)], args := [d] }
  | _ => none }
def LinkLivesWrongFalsely : Prop := linkLivesRow.holds Try.pinned (OpenSpec.ofChange linkLivesWrong)

/-- 'truglaw16.LinkOnce': WHATEVER THE INPUT: true; the input reads as it did. -/
def linkOnceSpec : ChangeSpec := { name := "linkOnce", fn := fun _ => fun
  | [d] => { results := [.lit (.bool true)], args := [d] }
  | _ => none }
def linkOnceRow : OpenClaim := { program := "ytnpofcnibgdjhaa", sum := "03eea3147fd56a8955642642db000f058e8ab336f002256dff9f9f1b45d8908e", func := "trug/truglaw16.LinkOnce", spec := "linkOnce", unfollowed := true, recurses := true, apart := false }
def LinkOnceSaid : Prop := linkOnceRow.holds Try.pinned (OpenSpec.ofChange linkOnceSpec)

/-- ITS FALSE NEIGHBOUR: 'it returns false'. Refute it at one input. -/
def linkOnceWrong : ChangeSpec := { name := "linkOnce", fn := fun _ => fun
  | [d] => { results := [.lit (.bool false)], args := [d] }
  | _ => none }
def LinkOnceWrongFalsely : Prop := linkOnceRow.holds Try.pinned (OpenSpec.ofChange linkOnceWrong)

/-- 'truglaw16.LinkBack': WHATEVER THE INPUT: true; the input reads as it did. -/
def linkBackSpec : ChangeSpec := { name := "linkBack", fn := fun _ => fun
  | [d1, d2] => { results := [.lit (.bool true)], args := [d1, d2] }
  | _ => none }
def linkBackRow : OpenClaim := { program := "ytnpofcnibgdjhaa", sum := "03eea3147fd56a8955642642db000f058e8ab336f002256dff9f9f1b45d8908e", func := "trug/truglaw16.LinkBack", spec := "linkBack", unfollowed := true, recurses := true, apart := false }
def LinkBackSaid : Prop := linkBackRow.holds Try.pinned (OpenSpec.ofChange linkBackSpec)

/-- ITS FALSE NEIGHBOUR: 'it returns false'. Refute it at one input. -/
def linkBackWrong : ChangeSpec := { name := "linkBack", fn := fun _ => fun
  | [d1, d2] => { results := [.lit (.bool false)], args := [d1, d2] }
  | _ => none }
def LinkBackWrongFalsely : Prop := linkBackRow.holds Try.pinned (OpenSpec.ofChange linkBackWrong)

/-- 'truglaw16.LinkFull': WHATEVER THE INPUT: true; the input reads as it did. -/
def linkFullSpec : ChangeSpec := { name := "linkFull", fn := fun _ => fun
  | [d] => { results := [.lit (.bool true)], args := [d] }
  | _ => none }
def linkFullRow : OpenClaim := { program := "ytnpofcnibgdjhaa", sum := "03eea3147fd56a8955642642db000f058e8ab336f002256dff9f9f1b45d8908e", func := "trug/truglaw16.LinkFull", spec := "linkFull", unfollowed := true, recurses := true, apart := false }
def LinkFullSaid : Prop := linkFullRow.holds Try.pinned (OpenSpec.ofChange linkFullSpec)

/-- ITS FALSE NEIGHBOUR: 'it returns false'. Refute it at one input. -/
def linkFullWrong : ChangeSpec := { name := "linkFull", fn := fun _ => fun
  | [d] => { results := [.lit (.bool false)], args := [d] }
  | _ => none }
def LinkFullWrongFalsely : Prop := linkFullRow.holds Try.pinned (OpenSpec.ofChange linkFullWrong)

/-- 'truglaw15.PacketBack': WHATEVER THE INPUT: true; the input reads as it did. -/
def packetBackSpec : ChangeSpec := { name := "packetBack", fn := fun _ => fun
  | [d1, d2, d3] => { results := [.lit (.bool true)], args := [d1, d2, d3] }
  | _ => none }
def packetBackRow : OpenClaim := { program := "ytnpofcnibgdjhaa", sum := "03eea3147fd56a8955642642db000f058e8ab336f002256dff9f9f1b45d8908e", func := "trug/truglaw15.PacketBack", spec := "packetBack", unfollowed := true, recurses := true, apart := false }
def PacketBackSaid : Prop := packetBackRow.holds Try.pinned (OpenSpec.ofChange packetBackSpec)

/-- ITS FALSE NEIGHBOUR: 'it returns false'. Refute it at one input. -/
def packetBackWrong : ChangeSpec := { name := "packetBack", fn := fun _ => fun
  | [d1, d2, d3] => { results := [.lit (.bool false)], args := [d1, d2, d3] }
  | _ => none }
def PacketBackWrongFalsely : Prop := packetBackRow.holds Try.pinned (OpenSpec.ofChange packetBackWrong)

/-- 'truglaw30.NetKeeps': WHATEVER THE INPUT: true; the input reads as it did. -/
def netKeepsSpec : ChangeSpec := { name := "netKeeps", fn := fun _ => fun
  | [d] => { results := [.lit (.bool true)], args := [d] }
  | _ => none }
def netKeepsRow : OpenClaim := { program := "ytnpofcnibgdjhaa", sum := "03eea3147fd56a8955642642db000f058e8ab336f002256dff9f9f1b45d8908e", func := "trug/truglaw30.NetKeeps", spec := "netKeeps", unfollowed := true, recurses := true, apart := false }
def NetKeepsSaid : Prop := netKeepsRow.holds Try.pinned (OpenSpec.ofChange netKeepsSpec)

/-- ITS FALSE NEIGHBOUR: 'it returns false'. Refute it at one input. -/
def netKeepsWrong : ChangeSpec := { name := "netKeeps", fn := fun _ => fun
  | [d] => { results := [.lit (.bool false)], args := [d] }
  | _ => none }
def NetKeepsWrongFalsely : Prop := netKeepsRow.holds Try.pinned (OpenSpec.ofChange netKeepsWrong)

/-- 'truglaw30.NetCounts': WHATEVER THE INPUT: true; the input reads as it did. -/
def netCountsSpec : ChangeSpec := { name := "netCounts", fn := fun _ => fun
  | [d] => { results := [.lit (.bool true)], args := [d] }
  | _ => none }
def netCountsRow : OpenClaim := { program := "ytnpofcnibgdjhaa", sum := "03eea3147fd56a8955642642db000f058e8ab336f002256dff9f9f1b45d8908e", func := "trug/truglaw30.NetCounts", spec := "netCounts", unfollowed := true, recurses := true, apart := false }
def NetCountsSaid : Prop := netCountsRow.holds Try.pinned (OpenSpec.ofChange netCountsSpec)

/-- ITS FALSE NEIGHBOUR: 'it returns false'. Refute it at one input. -/
def netCountsWrong : ChangeSpec := { name := "netCounts", fn := fun _ => fun
  | [d] => { results := [.lit (.bool false)], args := [d] }
  | _ => none }
def NetCountsWrongFalsely : Prop := netCountsRow.holds Try.pinned (OpenSpec.ofChange netCountsWrong)

/-- 'truglaw17.LinksLive': WHATEVER THE INPUT: true; the input reads as it did. -/
def linksLiveSpec : ChangeSpec := { name := "linksLive", fn := fun _ => fun
  | [d1, d2, d3] => { results := [.lit (.bool true)], args := [d1, d2, d3] }
  | _ => none }
def linksLiveRow : OpenClaim := { program := "ytnpofcnibgdjhaa", sum := "03eea3147fd56a8955642642db000f058e8ab336f002256dff9f9f1b45d8908e", func := "trug/truglaw17.LinksLive", spec := "linksLive", unfollowed := true, recurses := true, apart := false }
def LinksLiveSaid : Prop := linksLiveRow.holds Try.pinned (OpenSpec.ofChange linksLiveSpec)

/-- ITS FALSE NEIGHBOUR: 'it returns false'. Refute it at one input. -/
def linksLiveWrong : ChangeSpec := { name := "linksLive", fn := fun _ => fun
  | [d1, d2, d3] => { results := [.lit (.bool false)], args := [d1, d2, d3] }
  | _ => none }
def LinksLiveWrongFalsely : Prop := linksLiveRow.holds Try.pinned (OpenSpec.ofChange linksLiveWrong)

/-- 'truglaw17.LinksApart': WHATEVER THE INPUT: true; the input reads as it did. -/
def linksApartSpec : ChangeSpec := { name := "linksApart", fn := fun _ => fun
  | [d] => { results := [.lit (.bool true)], args := [d] }
  | _ => none }
def linksApartRow : OpenClaim := { program := "ytnpofcnibgdjhaa", sum := "03eea3147fd56a8955642642db000f058e8ab336f002256dff9f9f1b45d8908e", func := "trug/truglaw17.LinksApart", spec := "linksApart", unfollowed := true, recurses := true, apart := false }
def LinksApartSaid : Prop := linksApartRow.holds Try.pinned (OpenSpec.ofChange linksApartSpec)

/-- ITS FALSE NEIGHBOUR: 'it returns false'. Refute it at one input. -/
def linksApartWrong : ChangeSpec := { name := "linksApart", fn := fun _ => fun
  | [d] => { results := [.lit (.bool false)], args := [d] }
  | _ => none }
def LinksApartWrongFalsely : Prop := linksApartRow.holds Try.pinned (OpenSpec.ofChange linksApartWrong)

/-- 'truglaw17.LinksBack': WHATEVER THE INPUT: true; the input reads as it did. -/
def linksBackSpec : ChangeSpec := { name := "linksBack", fn := fun _ => fun
  | [d1, d2] => { results := [.lit (.bool true)], args := [d1, d2] }
  | _ => none }
def linksBackRow : OpenClaim := { program := "ytnpofcnibgdjhaa", sum := "03eea3147fd56a8955642642db000f058e8ab336f002256dff9f9f1b45d8908e", func := "trug/truglaw17.LinksBack", spec := "linksBack", unfollowed := true, recurses := true, apart := false }
def LinksBackSaid : Prop := linksBackRow.holds Try.pinned (OpenSpec.ofChange linksBackSpec)

/-- ITS FALSE NEIGHBOUR: 'it returns false'. Refute it at one input. -/
def linksBackWrong : ChangeSpec := { name := "linksBack", fn := fun _ => fun
  | [d1, d2] => { results := [.lit (.bool false)], args := [d1, d2] }
  | _ => none }
def LinksBackWrongFalsely : Prop := linksBackRow.holds Try.pinned (OpenSpec.ofChange linksBackWrong)

/- THE SECOND FORM. 'bulk': how many values and letters a reading holds, each counted each time it is reached (what is shared counts as often as it is met; a slice's spare places count too). A statement '..UptoSaid' is the law's where the arguments, and the package variables that the reading takes, are together of bulk at most 1048576: NARROWER than '..Said'. Prove '..Said' where nothing that the law and all that it calls make is longer than what came in: it says more and counts as full. Else prove '..UptoSaid'. A law counts once. -/
mutual
def uptoBulk {H : Type} : DataW H → Nat
  | .lit (.string bytes) => bytes.length + 1
  | .lit _ => 1
  | .nil => 1
  | .ptr d => uptoBulk d + 1
  | .slice elems spare => uptoBulkAll elems + uptoBulkAll spare + 1
  | .agg parts => uptoBulkAll parts + 1
  | .iface _ d => uptoBulk d + 1
  | .map entries => uptoBulkEntries entries + 1
  | .held _ => 1
def uptoBulkAll {H : Type} : List (DataW H) → Nat
  | [] => 0
  | d :: r => uptoBulk d + uptoBulkAll r
def uptoBulkEntries {H : Type} : List (Lit × DataW H) → Nat
  | [] => 0
  | x :: r => uptoBulkEntry x + uptoBulkEntries r
def uptoBulkEntry {H : Type} : Lit × DataW H → Nat
  | (.string bytes, d) => bytes.length + uptoBulk d + 1
  | (_, d) => uptoBulk d + 1
 end
def uptoSmall : (H : Type) → List (DataW H) → Bool := fun _ ds => decide (uptoBulkAll ds ≤ 1048576)
def OpenSpec.upto (s : _root_.Go.ChangeSpec) : _root_.Go.OpenSpec := { _root_.Go.OpenSpec.ofChange s with cond := some uptoSmall }

/-- 'truglaw16.LinkLives', WHERE WHAT IT READS IS OF BULK AT MOST 1048576: true; the input reads as it did. -/
def linkLivesUptoRow : OpenClaim := { program := "ytnpofcnibgdjhaa", sum := "03eea3147fd56a8955642642db000f058e8ab336f002256dff9f9f1b45d8908e", func := "trug/truglaw16.LinkLives", spec := "linkLives", unfollowed := true, recurses := true, apart := false, narrowed := true }
def LinkLivesUptoSaid : Prop := linkLivesUptoRow.holds Try.pinned (OpenSpec.upto linkLivesSpec)

/-- 'truglaw16.LinkOnce', WHERE WHAT IT READS IS OF BULK AT MOST 1048576: true; the input reads as it did. -/
def linkOnceUptoRow : OpenClaim := { program := "ytnpofcnibgdjhaa", sum := "03eea3147fd56a8955642642db000f058e8ab336f002256dff9f9f1b45d8908e", func := "trug/truglaw16.LinkOnce", spec := "linkOnce", unfollowed := true, recurses := true, apart := false, narrowed := true }
def LinkOnceUptoSaid : Prop := linkOnceUptoRow.holds Try.pinned (OpenSpec.upto linkOnceSpec)

/-- 'truglaw16.LinkBack', WHERE WHAT IT READS IS OF BULK AT MOST 1048576: true; the input reads as it did. -/
def linkBackUptoRow : OpenClaim := { program := "ytnpofcnibgdjhaa", sum := "03eea3147fd56a8955642642db000f058e8ab336f002256dff9f9f1b45d8908e", func := "trug/truglaw16.LinkBack", spec := "linkBack", unfollowed := true, recurses := true, apart := false, narrowed := true }
def LinkBackUptoSaid : Prop := linkBackUptoRow.holds Try.pinned (OpenSpec.upto linkBackSpec)

/-- 'truglaw16.LinkFull', WHERE WHAT IT READS IS OF BULK AT MOST 1048576: true; the input reads as it did. -/
def linkFullUptoRow : OpenClaim := { program := "ytnpofcnibgdjhaa", sum := "03eea3147fd56a8955642642db000f058e8ab336f002256dff9f9f1b45d8908e", func := "trug/truglaw16.LinkFull", spec := "linkFull", unfollowed := true, recurses := true, apart := false, narrowed := true }
def LinkFullUptoSaid : Prop := linkFullUptoRow.holds Try.pinned (OpenSpec.upto linkFullSpec)

/-- 'truglaw15.PacketBack', WHERE WHAT IT READS IS OF BULK AT MOST 1048576: true; the input reads as it did. -/
def packetBackUptoRow : OpenClaim := { program := "ytnpofcnibgdjhaa", sum := "03eea3147fd56a8955642642db000f058e8ab336f002256dff9f9f1b45d8908e", func := "trug/truglaw15.PacketBack", spec := "packetBack", unfollowed := true, recurses := true, apart := false, narrowed := true }
def PacketBackUptoSaid : Prop := packetBackUptoRow.holds Try.pinned (OpenSpec.upto packetBackSpec)

/-- 'truglaw30.NetKeeps', WHERE WHAT IT READS IS OF BULK AT MOST 1048576: true; the input reads as it did. -/
def netKeepsUptoRow : OpenClaim := { program := "ytnpofcnibgdjhaa", sum := "03eea3147fd56a8955642642db000f058e8ab336f002256dff9f9f1b45d8908e", func := "trug/truglaw30.NetKeeps", spec := "netKeeps", unfollowed := true, recurses := true, apart := false, narrowed := true }
def NetKeepsUptoSaid : Prop := netKeepsUptoRow.holds Try.pinned (OpenSpec.upto netKeepsSpec)

/-- 'truglaw30.NetCounts', WHERE WHAT IT READS IS OF BULK AT MOST 1048576: true; the input reads as it did. -/
def netCountsUptoRow : OpenClaim := { program := "ytnpofcnibgdjhaa", sum := "03eea3147fd56a8955642642db000f058e8ab336f002256dff9f9f1b45d8908e", func := "trug/truglaw30.NetCounts", spec := "netCounts", unfollowed := true, recurses := true, apart := false, narrowed := true }
def NetCountsUptoSaid : Prop := netCountsUptoRow.holds Try.pinned (OpenSpec.upto netCountsSpec)

/-- 'truglaw17.LinksLive', WHERE WHAT IT READS IS OF BULK AT MOST 1048576: true; the input reads as it did. -/
def linksLiveUptoRow : OpenClaim := { program := "ytnpofcnibgdjhaa", sum := "03eea3147fd56a8955642642db000f058e8ab336f002256dff9f9f1b45d8908e", func := "trug/truglaw17.LinksLive", spec := "linksLive", unfollowed := true, recurses := true, apart := false, narrowed := true }
def LinksLiveUptoSaid : Prop := linksLiveUptoRow.holds Try.pinned (OpenSpec.upto linksLiveSpec)

/-- 'truglaw17.LinksApart', WHERE WHAT IT READS IS OF BULK AT MOST 1048576: true; the input reads as it did. -/
def linksApartUptoRow : OpenClaim := { program := "ytnpofcnibgdjhaa", sum := "03eea3147fd56a8955642642db000f058e8ab336f002256dff9f9f1b45d8908e", func := "trug/truglaw17.LinksApart", spec := "linksApart", unfollowed := true, recurses := true, apart := false, narrowed := true }
def LinksApartUptoSaid : Prop := linksApartUptoRow.holds Try.pinned (OpenSpec.upto linksApartSpec)

/-- 'truglaw17.LinksBack', WHERE WHAT IT READS IS OF BULK AT MOST 1048576: true; the input reads as it did. -/
def linksBackUptoRow : OpenClaim := { program := "ytnpofcnibgdjhaa", sum := "03eea3147fd56a8955642642db000f058e8ab336f002256dff9f9f1b45d8908e", func := "trug/truglaw17.LinksBack", spec := "linksBack", unfollowed := true, recurses := true, apart := false, narrowed := true }
def LinksBackUptoSaid : Prop := linksBackUptoRow.holds Try.pinned (OpenSpec.upto linksBackSpec)

end Rows
end Go.Proofs.Ytnpofcnibgdjhaa
