/-
  DERIVED. GIVEN WITH THE SEED: THE CARDS: each row of YtkjjneejmjfhlaaDoorRows.lean that lists a variable, with what it lists TIED to the program's text (the seventh form; the later family's looks); each row that meets fmt, with fmt's text TOLD by the authors' own Lean function (tested against real Go, not proved from fmt's source: count such statements apart). THE CARD IS WHAT COUNTS. Prove the row's statement (the work); the ties are given (YtkjjneejmjfhlaaDoorTie.lean); close each card by the builder's one call (the guide's Derived/Test/ToyasCard.lean, 'card_holds'). Laid BY PROGRAM, IN A SANDBOX (cutbox-door.mjs). By AI agents, Wed Nov 11 2026. No macro, syntax, notation, axiom, sorry.
-/
import Derived.Test.YtkjjneejmjfhlaaDoorRows
import GoSem.ClaimSeven
namespace Go.Proofs.YtkjjneejmjfhlaaDoor
namespace Rows

/-- THE TIED CARD OF 'laws.FnSends'. -/
def fnSendsCard : Claim7 := { stood := { row := fnSendsRow, standIns := [], harness := (true, "3befe14769bc51cef14bccf8393d2e1b4314e441c35692f600dd412f80d68da8"), looks := false }, kinds := [], alts := [], laidByText := true, laidKinds := [.data, .pinned], laidTests := true, laidLooks := .later }
def FnSendsCardSaid : Prop := Claim7.holds Tryd.pinned (.plain (OpenSpec.ofChange fnSendsSpec)) fnSendsCard

/-- THE TIED CARD OF 'laws.FnExactSendCoins'. -/
def fnExactSendCoinsCard : Claim7 := { stood := { row := fnExactSendCoinsRow, standIns := [], harness := (true, "3befe14769bc51cef14bccf8393d2e1b4314e441c35692f600dd412f80d68da8"), looks := false }, kinds := [], alts := [], laidByText := true, laidKinds := [.data, .pinned], laidTests := true, laidLooks := .later }
def FnExactSendCoinsCardSaid : Prop := Claim7.holds Tryd.pinned (.plain (OpenSpec.ofChange fnExactSendCoinsSpec)) fnExactSendCoinsCard

/-- THE TIED CARD OF 'laws.FnSettles'. -/
def fnSettlesCard : Claim7 := { stood := { row := fnSettlesRow, standIns := [], harness := (true, "3befe14769bc51cef14bccf8393d2e1b4314e441c35692f600dd412f80d68da8"), looks := false }, kinds := [], alts := [], laidByText := true, laidKinds := [.data, .pinned], laidTests := true, laidLooks := .later }
def FnSettlesCardSaid : Prop := Claim7.holds Tryd.pinned (.plain (OpenSpec.ofChange fnSettlesSpec)) fnSettlesCard

/-- THE TIED CARD OF 'laws.FnExactSettleEvent'. -/
def fnExactSettleEventCard : Claim7 := { stood := { row := fnExactSettleEventRow, standIns := [], harness := (true, "3befe14769bc51cef14bccf8393d2e1b4314e441c35692f600dd412f80d68da8"), looks := false }, kinds := [], alts := [], laidByText := true, laidKinds := [.data, .pinned], laidTests := true, laidLooks := .later }
def FnExactSettleEventCardSaid : Prop := Claim7.holds Tryd.pinned (.plain (OpenSpec.ofChange fnExactSettleEventSpec)) fnExactSettleEventCard

/-- THE SECOND FORM's CARD OF 'laws.FnSends'. -/
def fnSendsUptoCard : Claim7 := { stood := { row := fnSendsUptoRow, standIns := [], harness := (true, "3befe14769bc51cef14bccf8393d2e1b4314e441c35692f600dd412f80d68da8"), looks := false }, kinds := [], alts := [], laidByText := true, laidKinds := [.data, .pinned], laidTests := true, laidLooks := .later }
def FnSendsUptoCardSaid : Prop := Claim7.holds Tryd.pinned (.plain (OpenSpec.upto fnSendsSpec)) fnSendsUptoCard

/-- THE SECOND FORM's CARD OF 'laws.FnExactSendCoins'. -/
def fnExactSendCoinsUptoCard : Claim7 := { stood := { row := fnExactSendCoinsUptoRow, standIns := [], harness := (true, "3befe14769bc51cef14bccf8393d2e1b4314e441c35692f600dd412f80d68da8"), looks := false }, kinds := [], alts := [], laidByText := true, laidKinds := [.data, .pinned], laidTests := true, laidLooks := .later }
def FnExactSendCoinsUptoCardSaid : Prop := Claim7.holds Tryd.pinned (.plain (OpenSpec.upto fnExactSendCoinsSpec)) fnExactSendCoinsUptoCard

/-- THE SECOND FORM's CARD OF 'laws.FnSettles'. -/
def fnSettlesUptoCard : Claim7 := { stood := { row := fnSettlesUptoRow, standIns := [], harness := (true, "3befe14769bc51cef14bccf8393d2e1b4314e441c35692f600dd412f80d68da8"), looks := false }, kinds := [], alts := [], laidByText := true, laidKinds := [.data, .pinned], laidTests := true, laidLooks := .later }
def FnSettlesUptoCardSaid : Prop := Claim7.holds Tryd.pinned (.plain (OpenSpec.upto fnSettlesSpec)) fnSettlesUptoCard

/-- THE SECOND FORM's CARD OF 'laws.FnExactSettleEvent'. -/
def fnExactSettleEventUptoCard : Claim7 := { stood := { row := fnExactSettleEventUptoRow, standIns := [], harness := (true, "3befe14769bc51cef14bccf8393d2e1b4314e441c35692f600dd412f80d68da8"), looks := false }, kinds := [], alts := [], laidByText := true, laidKinds := [.data, .pinned], laidTests := true, laidLooks := .later }
def FnExactSettleEventUptoCardSaid : Prop := Claim7.holds Tryd.pinned (.plain (OpenSpec.upto fnExactSettleEventSpec)) fnExactSettleEventUptoCard
end Rows
end Go.Proofs.YtkjjneejmjfhlaaDoor
