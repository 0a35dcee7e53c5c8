/-
  ArithShows: the card.
-/
import Derived.Test.YtnbdahlceddihaaDoorCArithShows
import Derived.Test.YtnbdahlceddihaaDoorSw
namespace Go.Proofs.YtnbdahlceddihaaDoor
theorem arithShows_holds : Rows.ArithShowsCardSaid := arithShowsLaw.card arithShows_plain
#print axioms arithShows_holds
end Go.Proofs.YtnbdahlceddihaaDoor
