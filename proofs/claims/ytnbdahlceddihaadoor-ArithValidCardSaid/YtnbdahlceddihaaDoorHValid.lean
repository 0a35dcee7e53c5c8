/-
  ArithValid: the card.
-/
import Derived.Test.YtnbdahlceddihaaDoorCArithValid
import Derived.Test.YtnbdahlceddihaaDoorPw
namespace Go.Proofs.YtnbdahlceddihaaDoor
theorem arithValid_holds : Rows.ArithValidCardSaid := arithValidLaw.card arithValid_plain
#print axioms arithValid_holds
end Go.Proofs.YtnbdahlceddihaaDoor
