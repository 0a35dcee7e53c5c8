/-
  ArithBack: the card.
-/
import Derived.Test.YtnbdahlceddihaaDoorCArithBack
import Derived.Test.YtnbdahlceddihaaDoorBk
namespace Go.Proofs.YtnbdahlceddihaaDoor
theorem arithBack_holds : Rows.ArithBackCardSaid := arithBackLaw.card arithBack_plain
#print axioms arithBack_holds
end Go.Proofs.YtnbdahlceddihaaDoor
