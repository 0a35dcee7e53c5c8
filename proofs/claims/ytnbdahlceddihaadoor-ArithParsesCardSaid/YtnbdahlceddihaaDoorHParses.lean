/-
  ArithParses: the card.
-/
import Derived.Test.YtnbdahlceddihaaDoorCArithParses
import Derived.Test.YtnbdahlceddihaaDoorPs
namespace Go.Proofs.YtnbdahlceddihaaDoor
theorem arithParses_holds : Rows.ArithParsesCardSaid := arithParsesLaw.card arithParses_plain
#print axioms arithParses_holds
end Go.Proofs.YtnbdahlceddihaaDoor
