/-
  ArithAgain: the card.
-/
import Derived.Test.YtnbdahlceddihaaDoorCArithAgain
import Derived.Test.YtnbdahlceddihaaDoorAg
namespace Go.Proofs.YtnbdahlceddihaaDoor
theorem arithAgain_holds : Rows.ArithAgainCardSaid := arithAgainLaw.card arithAgain_plain
#print axioms arithAgain_holds
end Go.Proofs.YtnbdahlceddihaaDoor
