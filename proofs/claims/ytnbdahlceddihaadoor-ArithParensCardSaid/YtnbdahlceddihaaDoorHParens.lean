/-
  ArithParens: the card.
-/
import Derived.Test.YtnbdahlceddihaaDoorCArithParens
import Derived.Test.YtnbdahlceddihaaDoorPr
namespace Go.Proofs.YtnbdahlceddihaaDoor
theorem arithParens_holds : Rows.ArithParensCardSaid := arithParensLaw.card arithParens_plain
#print axioms arithParens_holds
end Go.Proofs.YtnbdahlceddihaaDoor
