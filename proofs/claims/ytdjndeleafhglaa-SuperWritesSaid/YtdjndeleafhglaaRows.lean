/-
  No cell of these rows narrows 'for every input' (looked for: loops, veiled, ifaces, maps, wideKeys, modest, calm, conditions, laid).
  DERIVED. THE GIVEN ROWS OF THIS SEAT. 21 by the template 'for every input the law returns true; each argument reads behind the call as it read before'; 0 by the template 'total and deterministic' (their statements: YtdjndeleafhglaaTotals.lean).
  GIVEN WITH THE SEED: the statements are not yours to turn. If you find one false, say at which input.
  Laid BY PROGRAM, IN A SANDBOX (cutbox-rows.mjs): the forced cells as the released guide's own fill.sh prints them over the translation 59f0d3df81b691c1… (all of the seat's roots in one cut). By AI agents, Wed Nov 11 2026. No macro, syntax, notation, axiom, sorry.
-/
import Derived.Test.YtdjndeleafhglaaChecked
import GoSem.Claim
import GoSem.ClaimJoined
import GoSem.ClaimMapViews
import Derived.JoinedTies
import Derived.KernelRfl
namespace Go.Proofs.Ytdjndeleafhglaa
/- THE CELL 'sum', in the pinned program and in every row, IS THE sha256 OF THE DUMP (.gsa) THAT YtdjndeleafhglaaProg.lean LOADS. Nothing in Lean hashes anything: it is a label: what it is worth is what the hold of that sum in a sandbox is worth. -/
noncomputable def Try.pinned : Pinned := { name := "ytdjndeleafhglaa", sum := "59f0d3df81b691c157da3c94245c2c49f04fb19876f8f74bab8f96ef4fa5f3bf", checked := Try.checked }
namespace Rows
def none {H : Type} : Left H := { results := [], args := [] }

/-- 'oubliettelaw21.GeomSizes': WHATEVER THE INPUT: true; the input reads as it did. -/
def geomSizesSpec : ChangeSpec := { name := "geomSizes", fn := fun _ => fun
  | [d] => { results := [.lit (.bool true)], args := [d] }
  | _ => none }
def geomSizesRow : OpenClaim := { program := "ytdjndeleafhglaa", sum := "59f0d3df81b691c157da3c94245c2c49f04fb19876f8f74bab8f96ef4fa5f3bf", func := "oubliette/oubliettelaw21.GeomSizes", spec := "geomSizes", plainKeys := false, apart := false }
def GeomSizesSaid : Prop := geomSizesRow.holds Try.pinned (OpenSpec.ofChange geomSizesSpec)

/-- ITS FALSE NEIGHBOUR: 'it returns false'. Refute it at one input. -/
def geomSizesWrong : ChangeSpec := { name := "geomSizes", fn := fun _ => fun
  | [d] => { results := [.lit (.bool false)], args := [d] }
  | _ => none }
def GeomSizesWrongFalsely : Prop := geomSizesRow.holds Try.pinned (OpenSpec.ofChange geomSizesWrong)

/-- 'oubliettelaw21.GeomApart': WHATEVER THE INPUT: true; the input reads as it did. -/
def geomApartSpec : ChangeSpec := { name := "geomApart", fn := fun _ => fun
  | [d] => { results := [.lit (.bool true)], args := [d] }
  | _ => none }
def geomApartRow : OpenClaim := { program := "ytdjndeleafhglaa", sum := "59f0d3df81b691c157da3c94245c2c49f04fb19876f8f74bab8f96ef4fa5f3bf", func := "oubliette/oubliettelaw21.GeomApart", spec := "geomApart", plainKeys := false, apart := false }
def GeomApartSaid : Prop := geomApartRow.holds Try.pinned (OpenSpec.ofChange geomApartSpec)

/-- ITS FALSE NEIGHBOUR: 'it returns false'. Refute it at one input. -/
def geomApartWrong : ChangeSpec := { name := "geomApart", fn := fun _ => fun
  | [d] => { results := [.lit (.bool false)], args := [d] }
  | _ => none }
def GeomApartWrongFalsely : Prop := geomApartRow.holds Try.pinned (OpenSpec.ofChange geomApartWrong)

/-- 'oubliettelaw21.GeomPlaces': WHATEVER THE INPUT: true; the input reads as it did. -/
def geomPlacesSpec : ChangeSpec := { name := "geomPlaces", fn := fun _ => fun
  | [d1, d2, d3, d4] => { results := [.lit (.bool true)], args := [d1, d2, d3, d4] }
  | _ => none }
def geomPlacesRow : OpenClaim := { program := "ytdjndeleafhglaa", sum := "59f0d3df81b691c157da3c94245c2c49f04fb19876f8f74bab8f96ef4fa5f3bf", func := "oubliette/oubliettelaw21.GeomPlaces", spec := "geomPlaces", plainKeys := false, apart := false }
def GeomPlacesSaid : Prop := geomPlacesRow.holds Try.pinned (OpenSpec.ofChange geomPlacesSpec)

/-- ITS FALSE NEIGHBOUR: 'it returns false'. Refute it at one input. -/
def geomPlacesWrong : ChangeSpec := { name := "geomPlaces", fn := fun _ => fun
  | [d1, d2, d3, d4] => { results := [.lit (.bool false)], args := [d1, d2, d3, d4] }
  | _ => none }
def GeomPlacesWrongFalsely : Prop := geomPlacesRow.holds Try.pinned (OpenSpec.ofChange geomPlacesWrong)

/-- 'oubliettelaw19.DiskTears': WHATEVER THE INPUT: true; the input reads as it did. -/
def diskTearsSpec : ChangeSpec := { name := "diskTears", fn := fun _ => fun
  | [d1, d2, d3, d4] => { results := [.lit (.bool true)], args := [d1, d2, d3, d4] }
  | _ => none }
def diskTearsRow : OpenClaim := { program := "ytdjndeleafhglaa", sum := "59f0d3df81b691c157da3c94245c2c49f04fb19876f8f74bab8f96ef4fa5f3bf", func := "oubliette/oubliettelaw19.DiskTears", spec := "diskTears", unfollowed := true, recurses := true, plainKeys := false, apart := false }
def DiskTearsSaid : Prop := diskTearsRow.holds Try.pinned (OpenSpec.ofChange diskTearsSpec)

/-- ITS FALSE NEIGHBOUR: 'it returns false'. Refute it at one input. -/
def diskTearsWrong : ChangeSpec := { name := "diskTears", fn := fun _ => fun
  | [d1, d2, d3, d4] => { results := [.lit (.bool false)], args := [d1, d2, d3, d4] }
  | _ => none }
def DiskTearsWrongFalsely : Prop := diskTearsRow.holds Try.pinned (OpenSpec.ofChange diskTearsWrong)

/-- 'oubliettelaw18.SectorReads': WHATEVER THE INPUT: true; the input reads as it did. -/
def sectorReadsSpec : ChangeSpec := { name := "sectorReads", fn := fun _ => fun
  | [d1, d2] => { results := [.lit (.bool true)], args := [d1, d2] }
  | _ => none }
def sectorReadsRow : OpenClaim := { program := "ytdjndeleafhglaa", sum := "59f0d3df81b691c157da3c94245c2c49f04fb19876f8f74bab8f96ef4fa5f3bf", func := "oubliette/oubliettelaw18.SectorReads", spec := "sectorReads", unfollowed := true, recurses := true, plainKeys := false, apart := false }
def SectorReadsSaid : Prop := sectorReadsRow.holds Try.pinned (OpenSpec.ofChange sectorReadsSpec)

/-- ITS FALSE NEIGHBOUR: 'it returns false'. Refute it at one input. -/
def sectorReadsWrong : ChangeSpec := { name := "sectorReads", fn := fun _ => fun
  | [d1, d2] => { results := [.lit (.bool false)], args := [d1, d2] }
  | _ => none }
def SectorReadsWrongFalsely : Prop := sectorReadsRow.holds Try.pinned (OpenSpec.ofChange sectorReadsWrong)

/-- 'oubliettelaw18.SectorBytes': WHATEVER THE INPUT: true; the input reads as it did. -/
def sectorBytesSpec : ChangeSpec := { name := "sectorBytes", fn := fun _ => fun
  | [d1, d2, d3] => { results := [.lit (.bool true)], args := [d1, d2, d3] }
  | _ => none }
def sectorBytesRow : OpenClaim := { program := "ytdjndeleafhglaa", sum := "59f0d3df81b691c157da3c94245c2c49f04fb19876f8f74bab8f96ef4fa5f3bf", func := "oubliette/oubliettelaw18.SectorBytes", spec := "sectorBytes", unfollowed := true, recurses := true, plainKeys := false, apart := false }
def SectorBytesSaid : Prop := sectorBytesRow.holds Try.pinned (OpenSpec.ofChange sectorBytesSpec)

/-- ITS FALSE NEIGHBOUR: 'it returns false'. Refute it at one input. -/
def sectorBytesWrong : ChangeSpec := { name := "sectorBytes", fn := fun _ => fun
  | [d1, d2, d3] => { results := [.lit (.bool false)], args := [d1, d2, d3] }
  | _ => none }
def SectorBytesWrongFalsely : Prop := sectorBytesRow.holds Try.pinned (OpenSpec.ofChange sectorBytesWrong)

/-- 'oubliettelaw18.SectorBack': WHATEVER THE INPUT: true; the input reads as it did. -/
def sectorBackSpec : ChangeSpec := { name := "sectorBack", fn := fun _ => fun
  | [d1, d2, d3, d4] => { results := [.lit (.bool true)], args := [d1, d2, d3, d4] }
  | _ => none }
def sectorBackRow : OpenClaim := { program := "ytdjndeleafhglaa", sum := "59f0d3df81b691c157da3c94245c2c49f04fb19876f8f74bab8f96ef4fa5f3bf", func := "oubliette/oubliettelaw18.SectorBack", spec := "sectorBack", unfollowed := true, recurses := true, plainKeys := false, apart := false }
def SectorBackSaid : Prop := sectorBackRow.holds Try.pinned (OpenSpec.ofChange sectorBackSpec)

/-- ITS FALSE NEIGHBOUR: 'it returns false'. Refute it at one input. -/
def sectorBackWrong : ChangeSpec := { name := "sectorBack", fn := fun _ => fun
  | [d1, d2, d3, d4] => { results := [.lit (.bool false)], args := [d1, d2, d3, d4] }
  | _ => none }
def SectorBackWrongFalsely : Prop := sectorBackRow.holds Try.pinned (OpenSpec.ofChange sectorBackWrong)

/-- 'oubliettelaw19.DiskPlays': WHATEVER THE INPUT: true; the input reads as it did. -/
def diskPlaysSpec : ChangeSpec := { name := "diskPlays", fn := fun _ => fun
  | [d1, d2] => { results := [.lit (.bool true)], args := [d1, d2] }
  | _ => none }
def diskPlaysRow : OpenClaim := { program := "ytdjndeleafhglaa", sum := "59f0d3df81b691c157da3c94245c2c49f04fb19876f8f74bab8f96ef4fa5f3bf", func := "oubliette/oubliettelaw19.DiskPlays", spec := "diskPlays", unfollowed := true, recurses := true, plainKeys := false, apart := false }
def DiskPlaysSaid : Prop := diskPlaysRow.holds Try.pinned (OpenSpec.ofChange diskPlaysSpec)

/-- ITS FALSE NEIGHBOUR: 'it returns false'. Refute it at one input. -/
def diskPlaysWrong : ChangeSpec := { name := "diskPlays", fn := fun _ => fun
  | [d1, d2] => { results := [.lit (.bool false)], args := [d1, d2] }
  | _ => none }
def DiskPlaysWrongFalsely : Prop := diskPlaysRow.holds Try.pinned (OpenSpec.ofChange diskPlaysWrong)

/-- 'oubliettelaw19.DiskKeeps': WHATEVER THE INPUT: true; the input reads as it did. -/
def diskKeepsSpec : ChangeSpec := { name := "diskKeeps", fn := fun _ => fun
  | [d1, d2, d3, d4] => { results := [.lit (.bool true)], args := [d1, d2, d3, d4] }
  | _ => none }
def diskKeepsRow : OpenClaim := { program := "ytdjndeleafhglaa", sum := "59f0d3df81b691c157da3c94245c2c49f04fb19876f8f74bab8f96ef4fa5f3bf", func := "oubliette/oubliettelaw19.DiskKeeps", spec := "diskKeeps", unfollowed := true, recurses := true, plainKeys := false, apart := false }
def DiskKeepsSaid : Prop := diskKeepsRow.holds Try.pinned (OpenSpec.ofChange diskKeepsSpec)

/-- ITS FALSE NEIGHBOUR: 'it returns false'. Refute it at one input. -/
def diskKeepsWrong : ChangeSpec := { name := "diskKeeps", fn := fun _ => fun
  | [d1, d2, d3, d4] => { results := [.lit (.bool false)], args := [d1, d2, d3, d4] }
  | _ => none }
def DiskKeepsWrongFalsely : Prop := diskKeepsRow.holds Try.pinned (OpenSpec.ofChange diskKeepsWrong)

/-- 'oubliettelaw29.RootPuts': WHATEVER THE INPUT: true; the input reads as it did. -/
def rootPutsSpec : ChangeSpec := { name := "rootPuts", fn := fun _ => fun
  | [d1, d2, d3] => { results := [.lit (.bool true)], args := [d1, d2, d3] }
  | _ => none }
def rootPutsRow : OpenClaim := { program := "ytdjndeleafhglaa", sum := "59f0d3df81b691c157da3c94245c2c49f04fb19876f8f74bab8f96ef4fa5f3bf", func := "oubliette/oubliettelaw29.RootPuts", spec := "rootPuts", unfollowed := true, recurses := true, plainKeys := false, apart := false }
def RootPutsSaid : Prop := rootPutsRow.holds Try.pinned (OpenSpec.ofChange rootPutsSpec)

/-- ITS FALSE NEIGHBOUR: 'it returns false'. Refute it at one input. -/
def rootPutsWrong : ChangeSpec := { name := "rootPuts", fn := fun _ => fun
  | [d1, d2, d3] => { results := [.lit (.bool false)], args := [d1, d2, d3] }
  | _ => none }
def RootPutsWrongFalsely : Prop := rootPutsRow.holds Try.pinned (OpenSpec.ofChange rootPutsWrong)

/-- 'oubliettelaw29.RootReads': WHATEVER THE INPUT: true; the input reads as it did. -/
def rootReadsSpec : ChangeSpec := { name := "rootReads", fn := fun _ => fun
  | [d1, d2, d3] => { results := [.lit (.bool true)], args := [d1, d2, d3] }
  | _ => none }
def rootReadsRow : OpenClaim := { program := "ytdjndeleafhglaa", sum := "59f0d3df81b691c157da3c94245c2c49f04fb19876f8f74bab8f96ef4fa5f3bf", func := "oubliette/oubliettelaw29.RootReads", spec := "rootReads", unfollowed := true, recurses := true, plainKeys := false, apart := false }
def RootReadsSaid : Prop := rootReadsRow.holds Try.pinned (OpenSpec.ofChange rootReadsSpec)

/-- ITS FALSE NEIGHBOUR: 'it returns false'. Refute it at one input. -/
def rootReadsWrong : ChangeSpec := { name := "rootReads", fn := fun _ => fun
  | [d1, d2, d3] => { results := [.lit (.bool false)], args := [d1, d2, d3] }
  | _ => none }
def RootReadsWrongFalsely : Prop := rootReadsRow.holds Try.pinned (OpenSpec.ofChange rootReadsWrong)

/-- 'oubliettelaw29.RootCrashes': WHATEVER THE INPUT: true; the input reads as it did. -/
def rootCrashesSpec : ChangeSpec := { name := "rootCrashes", fn := fun _ => fun
  | [d1, d2, d3, d4, d5] => { results := [.lit (.bool true)], args := [d1, d2, d3, d4, d5] }
  | _ => none }
def rootCrashesRow : OpenClaim := { program := "ytdjndeleafhglaa", sum := "59f0d3df81b691c157da3c94245c2c49f04fb19876f8f74bab8f96ef4fa5f3bf", func := "oubliette/oubliettelaw29.RootCrashes", spec := "rootCrashes", unfollowed := true, recurses := true, plainKeys := false, apart := false }
def RootCrashesSaid : Prop := rootCrashesRow.holds Try.pinned (OpenSpec.ofChange rootCrashesSpec)

/-- ITS FALSE NEIGHBOUR: 'it returns false'. Refute it at one input. -/
def rootCrashesWrong : ChangeSpec := { name := "rootCrashes", fn := fun _ => fun
  | [d1, d2, d3, d4, d5] => { results := [.lit (.bool false)], args := [d1, d2, d3, d4, d5] }
  | _ => none }
def RootCrashesWrongFalsely : Prop := rootCrashesRow.holds Try.pinned (OpenSpec.ofChange rootCrashesWrong)

/-- 'oubliettelaw24.SuperWrites': WHATEVER THE INPUT: true; the input reads as it did. -/
def superWritesSpec : ChangeSpec := { name := "superWrites", fn := fun _ => fun
  | [d1, d2] => { results := [.lit (.bool true)], args := [d1, d2] }
  | _ => none }
def superWritesRow : OpenClaim := { program := "ytdjndeleafhglaa", sum := "59f0d3df81b691c157da3c94245c2c49f04fb19876f8f74bab8f96ef4fa5f3bf", func := "oubliette/oubliettelaw24.SuperWrites", spec := "superWrites", unfollowed := true, recurses := true, plainKeys := false, apart := false }
def SuperWritesSaid : Prop := superWritesRow.holds Try.pinned (OpenSpec.ofChange superWritesSpec)

/-- ITS FALSE NEIGHBOUR: 'it returns false'. Refute it at one input. -/
def superWritesWrong : ChangeSpec := { name := "superWrites", fn := fun _ => fun
  | [d1, d2] => { results := [.lit (.bool false)], args := [d1, d2] }
  | _ => none }
def SuperWritesWrongFalsely : Prop := superWritesRow.holds Try.pinned (OpenSpec.ofChange superWritesWrong)

/-- 'oubliettelaw25.SnapWrites': WHATEVER THE INPUT: true; the input reads as it did. -/
def snapWritesSpec : ChangeSpec := { name := "snapWrites", fn := fun _ => fun
  | [d1, d2, d3] => { results := [.lit (.bool true)], args := [d1, d2, d3] }
  | _ => none }
def snapWritesRow : OpenClaim := { program := "ytdjndeleafhglaa", sum := "59f0d3df81b691c157da3c94245c2c49f04fb19876f8f74bab8f96ef4fa5f3bf", func := "oubliette/oubliettelaw25.SnapWrites", spec := "snapWrites", unfollowed := true, recurses := true, plainKeys := false, apart := false }
def SnapWritesSaid : Prop := snapWritesRow.holds Try.pinned (OpenSpec.ofChange snapWritesSpec)

/-- ITS FALSE NEIGHBOUR: 'it returns false'. Refute it at one input. -/
def snapWritesWrong : ChangeSpec := { name := "snapWrites", fn := fun _ => fun
  | [d1, d2, d3] => { results := [.lit (.bool false)], args := [d1, d2, d3] }
  | _ => none }
def SnapWritesWrongFalsely : Prop := snapWritesRow.holds Try.pinned (OpenSpec.ofChange snapWritesWrong)

/-- 'oubliettelaw25.SnapApart': WHATEVER THE INPUT: true; the input reads as it did. -/
def snapApartSpec : ChangeSpec := { name := "snapApart", fn := fun _ => fun
  | [d1, d2, d3, d4, d5, d6] => { results := [.lit (.bool true)], args := [d1, d2, d3, d4, d5, d6] }
  | _ => none }
def snapApartRow : OpenClaim := { program := "ytdjndeleafhglaa", sum := "59f0d3df81b691c157da3c94245c2c49f04fb19876f8f74bab8f96ef4fa5f3bf", func := "oubliette/oubliettelaw25.SnapApart", spec := "snapApart", unfollowed := true, recurses := true, plainKeys := false, apart := false }
def SnapApartSaid : Prop := snapApartRow.holds Try.pinned (OpenSpec.ofChange snapApartSpec)

/-- ITS FALSE NEIGHBOUR: 'it returns false'. Refute it at one input. -/
def snapApartWrong : ChangeSpec := { name := "snapApart", fn := fun _ => fun
  | [d1, d2, d3, d4, d5, d6] => { results := [.lit (.bool false)], args := [d1, d2, d3, d4, d5, d6] }
  | _ => none }
def SnapApartWrongFalsely : Prop := snapApartRow.holds Try.pinned (OpenSpec.ofChange snapApartWrong)

/-- 'oubliettelaw24.SuperReads': WHATEVER THE INPUT: true; the input reads as it did. -/
def superReadsSpec : ChangeSpec := { name := "superReads", fn := fun _ => fun
  | [d1, d2, d3, d4] => { results := [.lit (.bool true)], args := [d1, d2, d3, d4] }
  | _ => none }
def superReadsRow : OpenClaim := { program := "ytdjndeleafhglaa", sum := "59f0d3df81b691c157da3c94245c2c49f04fb19876f8f74bab8f96ef4fa5f3bf", func := "oubliette/oubliettelaw24.SuperReads", spec := "superReads", unfollowed := true, recurses := true, plainKeys := false, apart := false }
def SuperReadsSaid : Prop := superReadsRow.holds Try.pinned (OpenSpec.ofChange superReadsSpec)

/-- ITS FALSE NEIGHBOUR: 'it returns false'. Refute it at one input. -/
def superReadsWrong : ChangeSpec := { name := "superReads", fn := fun _ => fun
  | [d1, d2, d3, d4] => { results := [.lit (.bool false)], args := [d1, d2, d3, d4] }
  | _ => none }
def SuperReadsWrongFalsely : Prop := superReadsRow.holds Try.pinned (OpenSpec.ofChange superReadsWrong)

/-- 'oubliettelaw25.SnapReads': WHATEVER THE INPUT: true; the input reads as it did. -/
def snapReadsSpec : ChangeSpec := { name := "snapReads", fn := fun _ => fun
  | [d1, d2, d3] => { results := [.lit (.bool true)], args := [d1, d2, d3] }
  | _ => none }
def snapReadsRow : OpenClaim := { program := "ytdjndeleafhglaa", sum := "59f0d3df81b691c157da3c94245c2c49f04fb19876f8f74bab8f96ef4fa5f3bf", func := "oubliette/oubliettelaw25.SnapReads", spec := "snapReads", unfollowed := true, recurses := true, plainKeys := false, apart := false }
def SnapReadsSaid : Prop := snapReadsRow.holds Try.pinned (OpenSpec.ofChange snapReadsSpec)

/-- ITS FALSE NEIGHBOUR: 'it returns false'. Refute it at one input. -/
def snapReadsWrong : ChangeSpec := { name := "snapReads", fn := fun _ => fun
  | [d1, d2, d3] => { results := [.lit (.bool false)], args := [d1, d2, d3] }
  | _ => none }
def SnapReadsWrongFalsely : Prop := snapReadsRow.holds Try.pinned (OpenSpec.ofChange snapReadsWrong)

/-- 'oubliettelaw24.SuperCrashes': WHATEVER THE INPUT: true; the input reads as it did. -/
def superCrashesSpec : ChangeSpec := { name := "superCrashes", fn := fun _ => fun
  | [d1, d2, d3, d4, d5, d6] => { results := [.lit (.bool true)], args := [d1, d2, d3, d4, d5, d6] }
  | _ => none }
def superCrashesRow : OpenClaim := { program := "ytdjndeleafhglaa", sum := "59f0d3df81b691c157da3c94245c2c49f04fb19876f8f74bab8f96ef4fa5f3bf", func := "oubliette/oubliettelaw24.SuperCrashes", spec := "superCrashes", unfollowed := true, recurses := true, plainKeys := false, apart := false }
def SuperCrashesSaid : Prop := superCrashesRow.holds Try.pinned (OpenSpec.ofChange superCrashesSpec)

/-- ITS FALSE NEIGHBOUR: 'it returns false'. Refute it at one input. -/
def superCrashesWrong : ChangeSpec := { name := "superCrashes", fn := fun _ => fun
  | [d1, d2, d3, d4, d5, d6] => { results := [.lit (.bool false)], args := [d1, d2, d3, d4, d5, d6] }
  | _ => none }
def SuperCrashesWrongFalsely : Prop := superCrashesRow.holds Try.pinned (OpenSpec.ofChange superCrashesWrong)

/-- 'oubliettelaw23.WalScans': WHATEVER THE INPUT: true; the input reads as it did. -/
def walScansSpec : ChangeSpec := { name := "walScans", fn := fun _ => fun
  | [d1, d2, d3, d4] => { results := [.lit (.bool true)], args := [d1, d2, d3, d4] }
  | _ => none }
def walScansRow : OpenClaim := { program := "ytdjndeleafhglaa", sum := "59f0d3df81b691c157da3c94245c2c49f04fb19876f8f74bab8f96ef4fa5f3bf", func := "oubliette/oubliettelaw23.WalScans", spec := "walScans", unfollowed := true, recurses := true, plainKeys := false, apart := false }
def WalScansSaid : Prop := walScansRow.holds Try.pinned (OpenSpec.ofChange walScansSpec)

/-- ITS FALSE NEIGHBOUR: 'it returns false'. Refute it at one input. -/
def walScansWrong : ChangeSpec := { name := "walScans", fn := fun _ => fun
  | [d1, d2, d3, d4] => { results := [.lit (.bool false)], args := [d1, d2, d3, d4] }
  | _ => none }
def WalScansWrongFalsely : Prop := walScansRow.holds Try.pinned (OpenSpec.ofChange walScansWrong)

/-- 'oubliettelaw23.WalAppends': WHATEVER THE INPUT: true; the input reads as it did. -/
def walAppendsSpec : ChangeSpec := { name := "walAppends", fn := fun _ => fun
  | [d1, d2, d3, d4] => { results := [.lit (.bool true)], args := [d1, d2, d3, d4] }
  | _ => none }
def walAppendsRow : OpenClaim := { program := "ytdjndeleafhglaa", sum := "59f0d3df81b691c157da3c94245c2c49f04fb19876f8f74bab8f96ef4fa5f3bf", func := "oubliette/oubliettelaw23.WalAppends", spec := "walAppends", unfollowed := true, recurses := true, plainKeys := false, apart := false }
def WalAppendsSaid : Prop := walAppendsRow.holds Try.pinned (OpenSpec.ofChange walAppendsSpec)

/-- ITS FALSE NEIGHBOUR: 'it returns false'. Refute it at one input. -/
def walAppendsWrong : ChangeSpec := { name := "walAppends", fn := fun _ => fun
  | [d1, d2, d3, d4] => { results := [.lit (.bool false)], args := [d1, d2, d3, d4] }
  | _ => none }
def WalAppendsWrongFalsely : Prop := walAppendsRow.holds Try.pinned (OpenSpec.ofChange walAppendsWrong)

/-- 'oubliettelaw23.WalCrashes': WHATEVER THE INPUT: true; the input reads as it did. -/
def walCrashesSpec : ChangeSpec := { name := "walCrashes", fn := fun _ => fun
  | [d1, d2, d3, d4, d5, d6] => { results := [.lit (.bool true)], args := [d1, d2, d3, d4, d5, d6] }
  | _ => none }
def walCrashesRow : OpenClaim := { program := "ytdjndeleafhglaa", sum := "59f0d3df81b691c157da3c94245c2c49f04fb19876f8f74bab8f96ef4fa5f3bf", func := "oubliette/oubliettelaw23.WalCrashes", spec := "walCrashes", unfollowed := true, recurses := true, plainKeys := false, apart := false }
def WalCrashesSaid : Prop := walCrashesRow.holds Try.pinned (OpenSpec.ofChange walCrashesSpec)

/-- ITS FALSE NEIGHBOUR: 'it returns false'. Refute it at one input. -/
def walCrashesWrong : ChangeSpec := { name := "walCrashes", fn := fun _ => fun
  | [d1, d2, d3, d4, d5, d6] => { results := [.lit (.bool false)], args := [d1, d2, d3, d4, d5, d6] }
  | _ => none }
def WalCrashesWrongFalsely : Prop := walCrashesRow.holds Try.pinned (OpenSpec.ofChange walCrashesWrong)

/- THE SECOND FORM. 'bulk': how many values and letters a reading holds, each counted each time it is reached (what is shared counts as often as it is met; a slice's spare places count too). A statement '..UptoSaid' is the law's where the arguments, and the package variables that the reading takes, are together of bulk at most 1048576: NARROWER than '..Said'. Prove '..Said' where nothing that the law and all that it calls make is longer than what came in: it says more and counts as full. Else prove '..UptoSaid'. A law counts once. -/
mutual
def uptoBulk {H : Type} : DataW H → Nat
  | .lit (.string bytes) => bytes.length + 1
  | .lit _ => 1
  | .nil => 1
  | .ptr d => uptoBulk d + 1
  | .slice elems spare => uptoBulkAll elems + uptoBulkAll spare + 1
  | .agg parts => uptoBulkAll parts + 1
  | .iface _ d => uptoBulk d + 1
  | .map entries => uptoBulkEntries entries + 1
  | .held _ => 1
def uptoBulkAll {H : Type} : List (DataW H) → Nat
  | [] => 0
  | d :: r => uptoBulk d + uptoBulkAll r
def uptoBulkEntries {H : Type} : List (Lit × DataW H) → Nat
  | [] => 0
  | x :: r => uptoBulkEntry x + uptoBulkEntries r
def uptoBulkEntry {H : Type} : Lit × DataW H → Nat
  | (.string bytes, d) => bytes.length + uptoBulk d + 1
  | (_, d) => uptoBulk d + 1
 end
def uptoSmall : (H : Type) → List (DataW H) → Bool := fun _ ds => decide (uptoBulkAll ds ≤ 1048576)
def OpenSpec.upto (s : _root_.Go.ChangeSpec) : _root_.Go.OpenSpec := { _root_.Go.OpenSpec.ofChange s with cond := some uptoSmall }

/-- 'oubliettelaw21.GeomSizes', WHERE WHAT IT READS IS OF BULK AT MOST 1048576: true; the input reads as it did. -/
def geomSizesUptoRow : OpenClaim := { program := "ytdjndeleafhglaa", sum := "59f0d3df81b691c157da3c94245c2c49f04fb19876f8f74bab8f96ef4fa5f3bf", func := "oubliette/oubliettelaw21.GeomSizes", spec := "geomSizes", plainKeys := false, apart := false, narrowed := true }
def GeomSizesUptoSaid : Prop := geomSizesUptoRow.holds Try.pinned (OpenSpec.upto geomSizesSpec)

/-- 'oubliettelaw21.GeomApart', WHERE WHAT IT READS IS OF BULK AT MOST 1048576: true; the input reads as it did. -/
def geomApartUptoRow : OpenClaim := { program := "ytdjndeleafhglaa", sum := "59f0d3df81b691c157da3c94245c2c49f04fb19876f8f74bab8f96ef4fa5f3bf", func := "oubliette/oubliettelaw21.GeomApart", spec := "geomApart", plainKeys := false, apart := false, narrowed := true }
def GeomApartUptoSaid : Prop := geomApartUptoRow.holds Try.pinned (OpenSpec.upto geomApartSpec)

/-- 'oubliettelaw21.GeomPlaces', WHERE WHAT IT READS IS OF BULK AT MOST 1048576: true; the input reads as it did. -/
def geomPlacesUptoRow : OpenClaim := { program := "ytdjndeleafhglaa", sum := "59f0d3df81b691c157da3c94245c2c49f04fb19876f8f74bab8f96ef4fa5f3bf", func := "oubliette/oubliettelaw21.GeomPlaces", spec := "geomPlaces", plainKeys := false, apart := false, narrowed := true }
def GeomPlacesUptoSaid : Prop := geomPlacesUptoRow.holds Try.pinned (OpenSpec.upto geomPlacesSpec)

/-- 'oubliettelaw19.DiskTears', WHERE WHAT IT READS IS OF BULK AT MOST 1048576: true; the input reads as it did. -/
def diskTearsUptoRow : OpenClaim := { program := "ytdjndeleafhglaa", sum := "59f0d3df81b691c157da3c94245c2c49f04fb19876f8f74bab8f96ef4fa5f3bf", func := "oubliette/oubliettelaw19.DiskTears", spec := "diskTears", unfollowed := true, recurses := true, plainKeys := false, apart := false, narrowed := true }
def DiskTearsUptoSaid : Prop := diskTearsUptoRow.holds Try.pinned (OpenSpec.upto diskTearsSpec)

/-- 'oubliettelaw18.SectorReads', WHERE WHAT IT READS IS OF BULK AT MOST 1048576: true; the input reads as it did. -/
def sectorReadsUptoRow : OpenClaim := { program := "ytdjndeleafhglaa", sum := "59f0d3df81b691c157da3c94245c2c49f04fb19876f8f74bab8f96ef4fa5f3bf", func := "oubliette/oubliettelaw18.SectorReads", spec := "sectorReads", unfollowed := true, recurses := true, plainKeys := false, apart := false, narrowed := true }
def SectorReadsUptoSaid : Prop := sectorReadsUptoRow.holds Try.pinned (OpenSpec.upto sectorReadsSpec)

/-- 'oubliettelaw18.SectorBytes', WHERE WHAT IT READS IS OF BULK AT MOST 1048576: true; the input reads as it did. -/
def sectorBytesUptoRow : OpenClaim := { program := "ytdjndeleafhglaa", sum := "59f0d3df81b691c157da3c94245c2c49f04fb19876f8f74bab8f96ef4fa5f3bf", func := "oubliette/oubliettelaw18.SectorBytes", spec := "sectorBytes", unfollowed := true, recurses := true, plainKeys := false, apart := false, narrowed := true }
def SectorBytesUptoSaid : Prop := sectorBytesUptoRow.holds Try.pinned (OpenSpec.upto sectorBytesSpec)

/-- 'oubliettelaw18.SectorBack', WHERE WHAT IT READS IS OF BULK AT MOST 1048576: true; the input reads as it did. -/
def sectorBackUptoRow : OpenClaim := { program := "ytdjndeleafhglaa", sum := "59f0d3df81b691c157da3c94245c2c49f04fb19876f8f74bab8f96ef4fa5f3bf", func := "oubliette/oubliettelaw18.SectorBack", spec := "sectorBack", unfollowed := true, recurses := true, plainKeys := false, apart := false, narrowed := true }
def SectorBackUptoSaid : Prop := sectorBackUptoRow.holds Try.pinned (OpenSpec.upto sectorBackSpec)

/-- 'oubliettelaw19.DiskPlays', WHERE WHAT IT READS IS OF BULK AT MOST 1048576: true; the input reads as it did. -/
def diskPlaysUptoRow : OpenClaim := { program := "ytdjndeleafhglaa", sum := "59f0d3df81b691c157da3c94245c2c49f04fb19876f8f74bab8f96ef4fa5f3bf", func := "oubliette/oubliettelaw19.DiskPlays", spec := "diskPlays", unfollowed := true, recurses := true, plainKeys := false, apart := false, narrowed := true }
def DiskPlaysUptoSaid : Prop := diskPlaysUptoRow.holds Try.pinned (OpenSpec.upto diskPlaysSpec)

/-- 'oubliettelaw19.DiskKeeps', WHERE WHAT IT READS IS OF BULK AT MOST 1048576: true; the input reads as it did. -/
def diskKeepsUptoRow : OpenClaim := { program := "ytdjndeleafhglaa", sum := "59f0d3df81b691c157da3c94245c2c49f04fb19876f8f74bab8f96ef4fa5f3bf", func := "oubliette/oubliettelaw19.DiskKeeps", spec := "diskKeeps", unfollowed := true, recurses := true, plainKeys := false, apart := false, narrowed := true }
def DiskKeepsUptoSaid : Prop := diskKeepsUptoRow.holds Try.pinned (OpenSpec.upto diskKeepsSpec)

/-- 'oubliettelaw29.RootPuts', WHERE WHAT IT READS IS OF BULK AT MOST 1048576: true; the input reads as it did. -/
def rootPutsUptoRow : OpenClaim := { program := "ytdjndeleafhglaa", sum := "59f0d3df81b691c157da3c94245c2c49f04fb19876f8f74bab8f96ef4fa5f3bf", func := "oubliette/oubliettelaw29.RootPuts", spec := "rootPuts", unfollowed := true, recurses := true, plainKeys := false, apart := false, narrowed := true }
def RootPutsUptoSaid : Prop := rootPutsUptoRow.holds Try.pinned (OpenSpec.upto rootPutsSpec)

/-- 'oubliettelaw29.RootReads', WHERE WHAT IT READS IS OF BULK AT MOST 1048576: true; the input reads as it did. -/
def rootReadsUptoRow : OpenClaim := { program := "ytdjndeleafhglaa", sum := "59f0d3df81b691c157da3c94245c2c49f04fb19876f8f74bab8f96ef4fa5f3bf", func := "oubliette/oubliettelaw29.RootReads", spec := "rootReads", unfollowed := true, recurses := true, plainKeys := false, apart := false, narrowed := true }
def RootReadsUptoSaid : Prop := rootReadsUptoRow.holds Try.pinned (OpenSpec.upto rootReadsSpec)

/-- 'oubliettelaw29.RootCrashes', WHERE WHAT IT READS IS OF BULK AT MOST 1048576: true; the input reads as it did. -/
def rootCrashesUptoRow : OpenClaim := { program := "ytdjndeleafhglaa", sum := "59f0d3df81b691c157da3c94245c2c49f04fb19876f8f74bab8f96ef4fa5f3bf", func := "oubliette/oubliettelaw29.RootCrashes", spec := "rootCrashes", unfollowed := true, recurses := true, plainKeys := false, apart := false, narrowed := true }
def RootCrashesUptoSaid : Prop := rootCrashesUptoRow.holds Try.pinned (OpenSpec.upto rootCrashesSpec)

/-- 'oubliettelaw24.SuperWrites', WHERE WHAT IT READS IS OF BULK AT MOST 1048576: true; the input reads as it did. -/
def superWritesUptoRow : OpenClaim := { program := "ytdjndeleafhglaa", sum := "59f0d3df81b691c157da3c94245c2c49f04fb19876f8f74bab8f96ef4fa5f3bf", func := "oubliette/oubliettelaw24.SuperWrites", spec := "superWrites", unfollowed := true, recurses := true, plainKeys := false, apart := false, narrowed := true }
def SuperWritesUptoSaid : Prop := superWritesUptoRow.holds Try.pinned (OpenSpec.upto superWritesSpec)

/-- 'oubliettelaw25.SnapWrites', WHERE WHAT IT READS IS OF BULK AT MOST 1048576: true; the input reads as it did. -/
def snapWritesUptoRow : OpenClaim := { program := "ytdjndeleafhglaa", sum := "59f0d3df81b691c157da3c94245c2c49f04fb19876f8f74bab8f96ef4fa5f3bf", func := "oubliette/oubliettelaw25.SnapWrites", spec := "snapWrites", unfollowed := true, recurses := true, plainKeys := false, apart := false, narrowed := true }
def SnapWritesUptoSaid : Prop := snapWritesUptoRow.holds Try.pinned (OpenSpec.upto snapWritesSpec)

/-- 'oubliettelaw25.SnapApart', WHERE WHAT IT READS IS OF BULK AT MOST 1048576: true; the input reads as it did. -/
def snapApartUptoRow : OpenClaim := { program := "ytdjndeleafhglaa", sum := "59f0d3df81b691c157da3c94245c2c49f04fb19876f8f74bab8f96ef4fa5f3bf", func := "oubliette/oubliettelaw25.SnapApart", spec := "snapApart", unfollowed := true, recurses := true, plainKeys := false, apart := false, narrowed := true }
def SnapApartUptoSaid : Prop := snapApartUptoRow.holds Try.pinned (OpenSpec.upto snapApartSpec)

/-- 'oubliettelaw24.SuperReads', WHERE WHAT IT READS IS OF BULK AT MOST 1048576: true; the input reads as it did. -/
def superReadsUptoRow : OpenClaim := { program := "ytdjndeleafhglaa", sum := "59f0d3df81b691c157da3c94245c2c49f04fb19876f8f74bab8f96ef4fa5f3bf", func := "oubliette/oubliettelaw24.SuperReads", spec := "superReads", unfollowed := true, recurses := true, plainKeys := false, apart := false, narrowed := true }
def SuperReadsUptoSaid : Prop := superReadsUptoRow.holds Try.pinned (OpenSpec.upto superReadsSpec)

/-- 'oubliettelaw25.SnapReads', WHERE WHAT IT READS IS OF BULK AT MOST 1048576: true; the input reads as it did. -/
def snapReadsUptoRow : OpenClaim := { program := "ytdjndeleafhglaa", sum := "59f0d3df81b691c157da3c94245c2c49f04fb19876f8f74bab8f96ef4fa5f3bf", func := "oubliette/oubliettelaw25.SnapReads", spec := "snapReads", unfollowed := true, recurses := true, plainKeys := false, apart := false, narrowed := true }
def SnapReadsUptoSaid : Prop := snapReadsUptoRow.holds Try.pinned (OpenSpec.upto snapReadsSpec)

/-- 'oubliettelaw24.SuperCrashes', WHERE WHAT IT READS IS OF BULK AT MOST 1048576: true; the input reads as it did. -/
def superCrashesUptoRow : OpenClaim := { program := "ytdjndeleafhglaa", sum := "59f0d3df81b691c157da3c94245c2c49f04fb19876f8f74bab8f96ef4fa5f3bf", func := "oubliette/oubliettelaw24.SuperCrashes", spec := "superCrashes", unfollowed := true, recurses := true, plainKeys := false, apart := false, narrowed := true }
def SuperCrashesUptoSaid : Prop := superCrashesUptoRow.holds Try.pinned (OpenSpec.upto superCrashesSpec)

/-- 'oubliettelaw23.WalScans', WHERE WHAT IT READS IS OF BULK AT MOST 1048576: true; the input reads as it did. -/
def walScansUptoRow : OpenClaim := { program := "ytdjndeleafhglaa", sum := "59f0d3df81b691c157da3c94245c2c49f04fb19876f8f74bab8f96ef4fa5f3bf", func := "oubliette/oubliettelaw23.WalScans", spec := "walScans", unfollowed := true, recurses := true, plainKeys := false, apart := false, narrowed := true }
def WalScansUptoSaid : Prop := walScansUptoRow.holds Try.pinned (OpenSpec.upto walScansSpec)

/-- 'oubliettelaw23.WalAppends', WHERE WHAT IT READS IS OF BULK AT MOST 1048576: true; the input reads as it did. -/
def walAppendsUptoRow : OpenClaim := { program := "ytdjndeleafhglaa", sum := "59f0d3df81b691c157da3c94245c2c49f04fb19876f8f74bab8f96ef4fa5f3bf", func := "oubliette/oubliettelaw23.WalAppends", spec := "walAppends", unfollowed := true, recurses := true, plainKeys := false, apart := false, narrowed := true }
def WalAppendsUptoSaid : Prop := walAppendsUptoRow.holds Try.pinned (OpenSpec.upto walAppendsSpec)

/-- 'oubliettelaw23.WalCrashes', WHERE WHAT IT READS IS OF BULK AT MOST 1048576: true; the input reads as it did. -/
def walCrashesUptoRow : OpenClaim := { program := "ytdjndeleafhglaa", sum := "59f0d3df81b691c157da3c94245c2c49f04fb19876f8f74bab8f96ef4fa5f3bf", func := "oubliette/oubliettelaw23.WalCrashes", spec := "walCrashes", unfollowed := true, recurses := true, plainKeys := false, apart := false, narrowed := true }
def WalCrashesUptoSaid : Prop := walCrashesUptoRow.holds Try.pinned (OpenSpec.upto walCrashesSpec)

end Rows
end Go.Proofs.Ytdjndeleafhglaa
