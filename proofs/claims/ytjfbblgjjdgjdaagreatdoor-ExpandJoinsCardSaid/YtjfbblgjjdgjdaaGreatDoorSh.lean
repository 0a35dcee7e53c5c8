import Derived.Shelf.SlIter.Nil
import Derived.Shelf.SortM.Plain
import Derived.Shelf.SortM.SortNone
import Derived.Shelf.Strings.OnBuilder
import Derived.Shelf.Strings.Split
import Derived.Shelf.Strings.Cut
import Derived.Shelf.Strings.LastIndex
import Derived.Shelf.Strings.IndexAnyAll
import Derived.Shelf.SlicesE.Reverse
import Derived.Shelf.Strconv.Itoa3
import Derived.Test.YtjfbblgjjdgjdaaGreatDoorProg
open Option renaming some->iN
set_option linter.all false
set_option maxRecDepth 100000
set_option maxHeartbeats 4000000
namespace Go.Proofs
open Go.Proofs.Tryz
open Go.Shelf
def Tryz.ZQ:Go.Shelf.Ren:=⟨λ|7=>285|10=>344|n=>n,λ|23=>259|26=>9|3=>9|28=>371|27=>370|33=>87|n=>n,λ|n=>n⟩
theorem Tryz.at5:Go.Proofs.SlLaysZ.n7 prog Tryz.ZQ:=by constructor<;>first|kernel_rfl|(intro;kernel_rfl)|exact⟨Tryz.f285.name,by decide,Tryz.func285.trans (congrArg iN (by kernel_rfl))⟩|exact⟨Tryz.f344.name,by decide,Tryz.func344.trans (congrArg iN (by kernel_rfl))⟩
def Tryz.Tp:Go.Shelf.Ren:=⟨λ|6=>284|8=>343|9=>73|11=>379|13=>126|12=>125|23=>193|24=>194|14=>184|15=>185|16=>186|17=>187|18=>188|19=>189|20=>190|21=>191|22=>192|25=>247|26=>248|27=>249|28=>250|29=>251|30=>252|31=>308|n=>n,λ|26=>9|28=>371|24=>23|37=>222|48=>285|50=>287|40=>278|39=>277|45=>282|51=>332|55=>336|57=>383|58=>306|33=>87|n=>n,λ|n=>n⟩
theorem Tryz.apZ:Go.Proofs.SlLaysZ.n6 prog Tryz.Tp:=by constructor<;>first|kernel_rfl|(intro;kernel_rfl)|exact⟨Tryz.f284.name,by decide,Tryz.func284.trans (congrArg iN (by kernel_rfl))⟩|exact⟨Tryz.f343.name,by decide,Tryz.func343.trans (congrArg iN (by kernel_rfl))⟩|exact⟨Tryz.f379.name,by decide,Tryz.func379.trans (congrArg iN (by kernel_rfl))⟩
def Tryz.akJ:Go.Shelf.Ren:=⟨λ|6=>73|8=>126|9=>125|19=>193|20=>194|21=>184|22=>185|23=>186|24=>187|25=>188|26=>189|27=>190|28=>191|29=>192|36=>247|31=>248|32=>249|37=>250|38=>251|39=>252|41=>308|n=>n,λ|27=>23|29=>9|32=>222|26=>23|44=>285|46=>287|36=>278|35=>277|41=>282|53=>332|57=>336|63=>383|64=>306|n=>n,λ|n=>n⟩
theorem Tryz.abk:Go.Proofs.SlLaysM.n6 prog Tryz.akJ:=by constructor<;>first|kernel_rfl|(intro;kernel_rfl)|exact⟨Tryz.f73.name,by decide,Tryz.func73.trans (congrArg iN (by kernel_rfl))⟩|exact⟨Tryz.f125.name,by decide,Tryz.func125.trans (congrArg iN (by kernel_rfl))⟩|exact⟨Tryz.f184.name,by decide,Tryz.func184.trans (congrArg iN (by kernel_rfl))⟩|exact⟨Tryz.f185.name,by decide,Tryz.func185.trans (congrArg iN (by kernel_rfl))⟩|exact⟨Tryz.f186.name,by decide,Tryz.func186.trans (congrArg iN (by kernel_rfl))⟩|exact⟨Tryz.f187.name,by decide,Tryz.func187.trans (congrArg iN (by kernel_rfl))⟩|exact⟨Tryz.f188.name,by decide,Tryz.func188.trans (congrArg iN (by kernel_rfl))⟩|exact⟨Tryz.f189.name,by decide,Tryz.func189.trans (congrArg iN (by kernel_rfl))⟩|exact⟨Tryz.f190.name,by decide,Tryz.func190.trans (congrArg iN (by kernel_rfl))⟩|exact⟨Tryz.f191.name,by decide,Tryz.func191.trans (congrArg iN (by kernel_rfl))⟩|exact⟨Tryz.f192.name,by decide,Tryz.func192.trans (congrArg iN (by kernel_rfl))⟩|exact⟨Tryz.f247.name,by decide,Tryz.func247.trans (congrArg iN (by kernel_rfl))⟩|exact⟨Tryz.f250.name,by decide,Tryz.func250.trans (congrArg iN (by kernel_rfl))⟩|exact⟨Tryz.f251.name,by decide,Tryz.func251.trans (congrArg iN (by kernel_rfl))⟩|exact⟨Tryz.f252.name,by decide,Tryz.func252.trans (congrArg iN (by kernel_rfl))⟩|exact⟨Tryz.f308.name,by decide,Tryz.func308.trans (congrArg iN (by kernel_rfl))⟩
def Tryz.akK:Go.Shelf.Ren:=⟨λ|171=>165|243=>225|246=>288|283=>347|284=>348|285=>349|286=>350|129=>194|317=>380|318=>381|319=>382|320=>383|337=>394|338=>395|n=>n,λ|171=>400|53=>287|37=>133|173=>402|212=>423|51=>285|213=>424|46=>222|232=>435|233=>436|n=>n,λ|17=>1|18=>4|19=>5|n=>n⟩
theorem Tryz.at6:Go.Proofs.LaysM.n171 prog Tryz.akK:=by constructor<;>first|kernel_rfl|(intro;kernel_rfl)|(constructor<;>first|kernel_rfl|(intro;kernel_rfl))
def Tryz.Y5:Go.Shelf.Ren:=⟨λ|156=>70|165=>122|166=>64|169=>65|240=>112|241=>179|276=>173|277=>243|n=>n,λ|31=>23|72=>135|76=>138|70=>132|37=>133|75=>137|127=>206|164=>265|80=>140|n=>n,λ|n=>n⟩
theorem Tryz.aoq:Go.Proofs.Lays.n156 prog Tryz.Y5:=by constructor<;>first|kernel_rfl|(intro;kernel_rfl)
def Tryz.aiO:Go.Shelf.Ren:=⟨λ|146=>114|221=>174|268=>237|138=>238|143=>236|195=>297|197=>298|218=>299|219=>240|260=>354|217=>302|225=>303|224=>304|267=>305|266=>356|314=>357|n=>n,λ|31=>23|105=>352|46=>222|119=>426|139=>429|138=>428|146=>408|51=>285|n=>n,λ|1=>0|3=>2|4=>3|n=>n⟩
theorem Tryz.aq1:Go.Proofs.Lays.n146 prog Tryz.aiO:=by constructor<;>first|kernel_rfl|(intro;kernel_rfl)
def Tryz.anf:Go.Shelf.Ren:=⟨λ|149=>246|222=>307|n=>n,λ|n=>n,λ|n=>n⟩
theorem Tryz.auL:Go.Proofs.Lays.n149 prog Tryz.anf:=by constructor<;>first|kernel_rfl|(intro;kernel_rfl)
def Tryz.afM:Go.Shelf.Ren:=⟨λ|153=>239|152=>300|226=>301|227=>218|228=>272|137=>332|119=>355|224=>304|225=>303|217=>302|266=>356|n=>n,λ|117=>310|116=>309|46=>222|124=>313|n=>n,λ|n=>n⟩
theorem Tryz.iaL:Go.Proofs.Lays.n153 prog Tryz.afM:=by constructor<;>first|kernel_rfl|(intro;kernel_rfl)
def Tryz.ang:Go.Shelf.Ren:=⟨λ|145=>117|220=>176|219=>240|217=>302|225=>303|224=>304|267=>305|266=>356|314=>357|n=>n,λ|59=>208|46=>222|146=>408|51=>285|n=>n,λ|1=>0|n=>n⟩
theorem Tryz.auM:Go.Proofs.Lays.n145 prog Tryz.ang:=by constructor<;>first|kernel_rfl|(intro;kernel_rfl)
def Tryz.anh:Go.Shelf.Ren:=⟨λ|35=>295|n=>n,λ|22=>133|23=>5|n=>n,λ|n=>n⟩
theorem Tryz.auO:Go.Proofs.SlLaysE.n35 prog Tryz.anh:=by constructor<;>first|kernel_rfl|(intro;kernel_rfl)|exact⟨Tryz.f295.name,by decide,Tryz.func295.trans (congrArg iN (by kernel_rfl))⟩
