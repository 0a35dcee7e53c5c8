/-
  ArithSame: the card.
-/
import Derived.Test.YtnbdahlceddihaaDoorCArithSame
import Derived.Test.YtnbdahlceddihaaDoorSm
namespace Go.Proofs.YtnbdahlceddihaaDoor
theorem arithSame_holds : Rows.ArithSameCardSaid := arithSameLaw.card arithSame_plain
#print axioms arithSame_holds
end Go.Proofs.YtnbdahlceddihaaDoor
