/-
  DERIVED. GIVEN WITH THE SEED: THE CARDS: each row of YtdinnaijfemmbaaGreatDoorRows.lean that lists a variable, with what it lists TIED to the program's text (the seventh form; the later family's looks); each row that meets fmt, with fmt's text TOLD by the authors' own Lean function (tested against real Go, not proved from fmt's source: count such statements apart). THE CARD IS WHAT COUNTS. Prove the row's statement (the work); the ties are given (YtdinnaijfemmbaaGreatDoorTie.lean); close each card by the builder's one call (the guide's Derived/Test/ToyasCard.lean, 'card_holds'). Laid BY PROGRAM, IN A SANDBOX (cutbox-door.mjs). By AI agents, Wed Nov 11 2026. No macro, syntax, notation, axiom, sorry.
-/
import Derived.Test.YtdinnaijfemmbaaGreatDoorRows
import GoSem.ClaimSeven
namespace Go.Proofs.YtdinnaijfemmbaaGreatDoor
namespace Rows

/-- THE TIED CARD OF 'armoirelaw18.OpsNil'. -/
def opsNilCard : Claim7 := { stood := { row := opsNilRow, standIns := [], harness := (true, "6479ccc7690c01f012e2cf57ee7ba55add8cbdbb43febb2d149a181cf248c1ae"), looks := true }, kinds := [], alts := [], laidByText := true, laidKinds := [.handle], laidTests := true, laidLooks := .later }
def OpsNilCardSaid : Prop := Claim7.holds Tryz.pinned (.plain (OpenSpec.ofChange opsNilSpec)) opsNilCard

/-- THE TIED CARD OF 'armoirelaw19.PlainNil'. -/
def plainNilCard : Claim7 := { stood := { row := plainNilRow, standIns := [], harness := (true, "6479ccc7690c01f012e2cf57ee7ba55add8cbdbb43febb2d149a181cf248c1ae"), looks := true }, kinds := [], alts := [], laidByText := true, laidKinds := [.handle], laidTests := true, laidLooks := .later }
def PlainNilCardSaid : Prop := Claim7.holds Tryz.pinned (.plain (OpenSpec.ofChange plainNilSpec)) plainNilCard

/-- THE TIED CARD OF 'armoirelaw20.TxnNil'. -/
def txnNilCard : Claim7 := { stood := { row := txnNilRow, standIns := [], harness := (true, "6479ccc7690c01f012e2cf57ee7ba55add8cbdbb43febb2d149a181cf248c1ae"), looks := true }, kinds := [], alts := [], laidByText := true, laidKinds := [.handle], laidTests := true, laidLooks := .later }
def TxnNilCardSaid : Prop := Claim7.holds Tryz.pinned (.plain (OpenSpec.ofChange txnNilSpec)) txnNilCard

/-- THE SECOND FORM's CARD OF 'armoirelaw18.OpsNil'. -/
def opsNilUptoCard : Claim7 := { stood := { row := opsNilUptoRow, standIns := [], harness := (true, "6479ccc7690c01f012e2cf57ee7ba55add8cbdbb43febb2d149a181cf248c1ae"), looks := true }, kinds := [], alts := [], laidByText := true, laidKinds := [.handle], laidTests := true, laidLooks := .later }
def OpsNilUptoCardSaid : Prop := Claim7.holds Tryz.pinned (.plain (OpenSpec.upto opsNilSpec)) opsNilUptoCard

/-- THE SECOND FORM's CARD OF 'armoirelaw19.PlainNil'. -/
def plainNilUptoCard : Claim7 := { stood := { row := plainNilUptoRow, standIns := [], harness := (true, "6479ccc7690c01f012e2cf57ee7ba55add8cbdbb43febb2d149a181cf248c1ae"), looks := true }, kinds := [], alts := [], laidByText := true, laidKinds := [.handle], laidTests := true, laidLooks := .later }
def PlainNilUptoCardSaid : Prop := Claim7.holds Tryz.pinned (.plain (OpenSpec.upto plainNilSpec)) plainNilUptoCard

/-- THE SECOND FORM's CARD OF 'armoirelaw20.TxnNil'. -/
def txnNilUptoCard : Claim7 := { stood := { row := txnNilUptoRow, standIns := [], harness := (true, "6479ccc7690c01f012e2cf57ee7ba55add8cbdbb43febb2d149a181cf248c1ae"), looks := true }, kinds := [], alts := [], laidByText := true, laidKinds := [.handle], laidTests := true, laidLooks := .later }
def TxnNilUptoCardSaid : Prop := Claim7.holds Tryz.pinned (.plain (OpenSpec.upto txnNilSpec)) txnNilUptoCard
end Rows
end Go.Proofs.YtdinnaijfemmbaaGreatDoor
