import Derived.KernelRfl
import Derived.Shelf.SlIter.Nil
import Derived.Shelf.SortM.Plain
import Derived.Shelf.SortM.SortNone
import Derived.Shelf.SlGeneric
import Derived.Shelf.Strings.OnBuilder
import Derived.Shelf.Strings.Split
import Derived.Shelf.Strings.Cut
import Derived.Shelf.Strings.LastIndex
import Derived.Shelf.Strings.IndexAnyAll
import Derived.Shelf.Strings.Runes
import Derived.Shelf.Small.Strs
import Derived.Shelf.LaysM
import Derived.Shelf.SlLaysE
import Derived.Ground.SlgnProg
import Derived.Shelf.SlicesE.Reverse
import Derived.Shelf.Strconv.Itoa3
import Derived.Test.YtkmlndnhiboofaaGreatDoorProg
open Option renaming some->W0
set_option linter.all false
set_option maxRecDepth 100000
set_option maxHeartbeats 4000000
namespace Go.Proofs
open Go.Proofs.Tryz
open Go.Shelf
def Tryz.Yb:Go.Shelf.Ren:=⟨λ|7=>282|10=>341|n=>n,λ|23=>256|26=>9|3=>9|28=>368|27=>367|33=>77|n=>n,λ|n=>n⟩
theorem Tryz.aq4:Go.Proofs.SlLaysZ.n7 prog Tryz.Yb:=by constructor<;>first|kernel_rfl|(intro;kernel_rfl)|exact⟨Tryz.f282.name,by decide,Tryz.func282.trans (congrArg W0 (by kernel_rfl))⟩|exact⟨Tryz.f341.name,by decide,Tryz.func341.trans (congrArg W0 (by kernel_rfl))⟩
def Tryz.RH:Go.Shelf.Ren:=⟨λ|6=>281|8=>340|9=>70|11=>376|13=>123|12=>122|23=>190|24=>191|14=>181|15=>182|16=>183|17=>184|18=>185|19=>186|20=>187|21=>188|22=>189|25=>244|26=>245|27=>246|28=>247|29=>248|30=>249|31=>305|n=>n,λ|26=>9|28=>368|24=>23|37=>219|48=>282|50=>284|40=>275|39=>274|45=>279|51=>329|55=>333|57=>380|58=>286|33=>77|n=>n,λ|n=>n⟩
theorem Tryz.ani:Go.Proofs.SlLaysZ.n6 prog Tryz.RH:=by constructor<;>first|kernel_rfl|(intro;kernel_rfl)|exact⟨Tryz.f281.name,by decide,Tryz.func281.trans (congrArg W0 (by kernel_rfl))⟩|exact⟨Tryz.f340.name,by decide,Tryz.func340.trans (congrArg W0 (by kernel_rfl))⟩|exact⟨Tryz.f376.name,by decide,Tryz.func376.trans (congrArg W0 (by kernel_rfl))⟩
def Tryz.ail:Go.Shelf.Ren:=⟨λ|6=>70|8=>123|9=>122|19=>190|20=>191|21=>181|22=>182|23=>183|24=>184|25=>185|26=>186|27=>187|28=>188|29=>189|36=>244|31=>245|32=>246|37=>247|38=>248|39=>249|41=>305|n=>n,λ|27=>23|29=>9|32=>219|26=>23|44=>282|46=>284|36=>275|35=>274|41=>279|53=>329|57=>333|63=>380|64=>286|n=>n,λ|n=>n⟩
theorem Tryz.Zx:Go.Proofs.SlLaysM.n6 prog Tryz.ail:=by constructor<;>first|kernel_rfl|(intro;kernel_rfl)|exact⟨Tryz.f70.name,by decide,Tryz.func70.trans (congrArg W0 (by kernel_rfl))⟩|exact⟨Tryz.f122.name,by decide,Tryz.func122.trans (congrArg W0 (by kernel_rfl))⟩|exact⟨Tryz.f181.name,by decide,Tryz.func181.trans (congrArg W0 (by kernel_rfl))⟩|exact⟨Tryz.f182.name,by decide,Tryz.func182.trans (congrArg W0 (by kernel_rfl))⟩|exact⟨Tryz.f183.name,by decide,Tryz.func183.trans (congrArg W0 (by kernel_rfl))⟩|exact⟨Tryz.f184.name,by decide,Tryz.func184.trans (congrArg W0 (by kernel_rfl))⟩|exact⟨Tryz.f185.name,by decide,Tryz.func185.trans (congrArg W0 (by kernel_rfl))⟩|exact⟨Tryz.f186.name,by decide,Tryz.func186.trans (congrArg W0 (by kernel_rfl))⟩|exact⟨Tryz.f187.name,by decide,Tryz.func187.trans (congrArg W0 (by kernel_rfl))⟩|exact⟨Tryz.f188.name,by decide,Tryz.func188.trans (congrArg W0 (by kernel_rfl))⟩|exact⟨Tryz.f189.name,by decide,Tryz.func189.trans (congrArg W0 (by kernel_rfl))⟩|exact⟨Tryz.f244.name,by decide,Tryz.func244.trans (congrArg W0 (by kernel_rfl))⟩|exact⟨Tryz.f247.name,by decide,Tryz.func247.trans (congrArg W0 (by kernel_rfl))⟩|exact⟨Tryz.f248.name,by decide,Tryz.func248.trans (congrArg W0 (by kernel_rfl))⟩|exact⟨Tryz.f249.name,by decide,Tryz.func249.trans (congrArg W0 (by kernel_rfl))⟩|exact⟨Tryz.f305.name,by decide,Tryz.func305.trans (congrArg W0 (by kernel_rfl))⟩
def Tryz.aim:Go.Shelf.Ren:=⟨λ|171=>162|243=>222|246=>285|283=>344|284=>345|285=>346|286=>347|129=>191|317=>377|318=>378|319=>379|320=>380|337=>391|338=>392|n=>n,λ|171=>397|53=>284|37=>130|173=>399|212=>420|51=>282|213=>421|46=>219|232=>432|233=>433|n=>n,λ|17=>1|18=>4|19=>5|n=>n⟩
theorem Tryz.aq5:Go.Proofs.LaysM.n171 prog Tryz.aim:=by constructor<;>first|kernel_rfl|(intro;kernel_rfl)|(constructor<;>first|kernel_rfl|(intro;kernel_rfl))
def Tryz.Xp:Go.Shelf.Ren:=⟨λ|156=>67|165=>119|166=>61|169=>62|240=>109|241=>176|276=>170|277=>240|n=>n,λ|31=>23|72=>132|76=>135|70=>129|37=>130|75=>134|127=>203|164=>262|80=>137|n=>n,λ|n=>n⟩
theorem Tryz.alT:Go.Proofs.Lays.n156 prog Tryz.Xp:=by constructor<;>first|kernel_rfl|(intro;kernel_rfl)
def Tryz.agy:Go.Shelf.Ren:=⟨λ|146=>111|221=>171|268=>234|138=>235|143=>233|195=>294|197=>295|218=>296|219=>237|260=>351|217=>299|225=>300|224=>301|267=>302|266=>353|314=>354|n=>n,λ|31=>23|105=>349|46=>219|119=>423|139=>426|138=>425|146=>405|51=>282|n=>n,λ|1=>0|3=>2|4=>3|n=>n⟩
theorem Tryz.aoi:Go.Proofs.Lays.n146 prog Tryz.agy:=by constructor<;>first|kernel_rfl|(intro;kernel_rfl)
def Tryz.akJ:Go.Shelf.Ren:=⟨λ|149=>243|222=>304|n=>n,λ|n=>n,λ|n=>n⟩
theorem Tryz.arR:Go.Proofs.Lays.n149 prog Tryz.akJ:=by constructor<;>first|kernel_rfl|(intro;kernel_rfl)
def Tryz.adJ:Go.Shelf.Ren:=⟨λ|153=>236|152=>297|226=>298|227=>215|228=>269|137=>329|119=>352|224=>301|225=>300|217=>299|266=>353|n=>n,λ|117=>307|116=>306|46=>219|124=>310|n=>n,λ|n=>n⟩
theorem Tryz.iaL:Go.Proofs.Lays.n153 prog Tryz.adJ:=by constructor<;>first|kernel_rfl|(intro;kernel_rfl)
def Tryz.akK:Go.Shelf.Ren:=⟨λ|145=>114|220=>173|219=>237|217=>299|225=>300|224=>301|267=>302|266=>353|314=>354|n=>n,λ|59=>205|46=>219|146=>405|51=>282|n=>n,λ|1=>0|n=>n⟩
theorem Tryz.arS:Go.Proofs.Lays.n145 prog Tryz.akK:=by constructor<;>first|kernel_rfl|(intro;kernel_rfl)
def Tryz.akL:Go.Shelf.Ren:=⟨λ|35=>292|n=>n,λ|22=>130|23=>5|n=>n,λ|n=>n⟩
theorem Tryz.arU:Go.Proofs.SlLaysE.n35 prog Tryz.akL:=by constructor<;>first|kernel_rfl|(intro;kernel_rfl)|exact⟨Tryz.f292.name,by decide,Tryz.func292.trans (congrArg W0 (by kernel_rfl))⟩
end Go.Proofs
