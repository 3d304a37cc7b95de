/-
  DERIVED. GIVEN WITH THE SEED: THE CARDS: each row of YtcjafcbekegmlaaDoorRows.lean that lists a variable, with what it lists TIED to the program's text (the seventh form; the later family's looks); each row that meets fmt, with fmt's text TOLD by the authors' own Lean function (tested against real Go, not proved from fmt's source: count such statements apart). THE CARD IS WHAT COUNTS. Prove the row's statement (the work); the ties are given (YtcjafcbekegmlaaDoorTie.lean); close each card by the builder's one call (the guide's Derived/Test/ToyasCard.lean, 'card_holds'). Laid BY PROGRAM, IN A SANDBOX (cutbox-door.mjs). By AI agents, Wed Nov 11 2026. No macro, syntax, notation, axiom, sorry.
-/
import Derived.Test.YtcjafcbekegmlaaDoorRows
import GoSem.ClaimSeven
namespace Go.Proofs.YtcjafcbekegmlaaDoor
namespace Rows

/-- THE TIED CARD OF 'pharoslaw14.SpanWhole'. -/
def spanWholeCard : Claim7 := { stood := { row := spanWholeRow, standIns := [], harness := (true, "f5ac95c7257523c5c8a194841019940301b178a1de6264eb9b53944ef71a423a"), looks := false }, kinds := [], alts := [], laidByText := true, laidKinds := [.data], laidTests := true, laidLooks := .later }
def SpanWholeCardSaid : Prop := Claim7.holds Tryd.pinned (.plain (OpenSpec.ofChange spanWholeSpec)) spanWholeCard

/-- THE TIED CARD OF 'pharoslaw14.SpanPages'. -/
def spanPagesCard : Claim7 := { stood := { row := spanPagesRow, standIns := [], harness := (true, "f5ac95c7257523c5c8a194841019940301b178a1de6264eb9b53944ef71a423a"), looks := false }, kinds := [], alts := [], laidByText := true, laidKinds := [.data], laidTests := true, laidLooks := .later }
def SpanPagesCardSaid : Prop := Claim7.holds Tryd.pinned (.plain (OpenSpec.ofChange spanPagesSpec)) spanPagesCard

/-- THE TIED CARD OF 'pharoslaw14.SpanTight'. -/
def spanTightCard : Claim7 := { stood := { row := spanTightRow, standIns := [], harness := (true, "f5ac95c7257523c5c8a194841019940301b178a1de6264eb9b53944ef71a423a"), looks := false }, kinds := [], alts := [], laidByText := true, laidKinds := [.data], laidTests := true, laidLooks := .later }
def SpanTightCardSaid : Prop := Claim7.holds Tryd.pinned (.plain (OpenSpec.ofChange spanTightSpec)) spanTightCard

/-- THE TIED CARD OF 'pharoslaw14.SpanSound'. -/
def spanSoundCard : Claim7 := { stood := { row := spanSoundRow, standIns := [], harness := (true, "f5ac95c7257523c5c8a194841019940301b178a1de6264eb9b53944ef71a423a"), looks := false }, kinds := [], alts := [], laidByText := true, laidKinds := [.data], laidTests := true, laidLooks := .later }
def SpanSoundCardSaid : Prop := Claim7.holds Tryd.pinned (.plain (OpenSpec.ofChange spanSoundSpec)) spanSoundCard

/-- THE SECOND FORM's CARD OF 'pharoslaw14.SpanWhole'. -/
def spanWholeUptoCard : Claim7 := { stood := { row := spanWholeUptoRow, standIns := [], harness := (true, "f5ac95c7257523c5c8a194841019940301b178a1de6264eb9b53944ef71a423a"), looks := false }, kinds := [], alts := [], laidByText := true, laidKinds := [.data], laidTests := true, laidLooks := .later }
def SpanWholeUptoCardSaid : Prop := Claim7.holds Tryd.pinned (.plain (OpenSpec.upto spanWholeSpec)) spanWholeUptoCard

/-- THE SECOND FORM's CARD OF 'pharoslaw14.SpanPages'. -/
def spanPagesUptoCard : Claim7 := { stood := { row := spanPagesUptoRow, standIns := [], harness := (true, "f5ac95c7257523c5c8a194841019940301b178a1de6264eb9b53944ef71a423a"), looks := false }, kinds := [], alts := [], laidByText := true, laidKinds := [.data], laidTests := true, laidLooks := .later }
def SpanPagesUptoCardSaid : Prop := Claim7.holds Tryd.pinned (.plain (OpenSpec.upto spanPagesSpec)) spanPagesUptoCard

/-- THE SECOND FORM's CARD OF 'pharoslaw14.SpanTight'. -/
def spanTightUptoCard : Claim7 := { stood := { row := spanTightUptoRow, standIns := [], harness := (true, "f5ac95c7257523c5c8a194841019940301b178a1de6264eb9b53944ef71a423a"), looks := false }, kinds := [], alts := [], laidByText := true, laidKinds := [.data], laidTests := true, laidLooks := .later }
def SpanTightUptoCardSaid : Prop := Claim7.holds Tryd.pinned (.plain (OpenSpec.upto spanTightSpec)) spanTightUptoCard

/-- THE SECOND FORM's CARD OF 'pharoslaw14.SpanSound'. -/
def spanSoundUptoCard : Claim7 := { stood := { row := spanSoundUptoRow, standIns := [], harness := (true, "f5ac95c7257523c5c8a194841019940301b178a1de6264eb9b53944ef71a423a"), looks := false }, kinds := [], alts := [], laidByText := true, laidKinds := [.data], laidTests := true, laidLooks := .later }
def SpanSoundUptoCardSaid : Prop := Claim7.holds Tryd.pinned (.plain (OpenSpec.upto spanSoundSpec)) spanSoundUptoCard
end Rows
end Go.Proofs.YtcjafcbekegmlaaDoor
