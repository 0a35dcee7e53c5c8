import Derived.Shelf.SlIter.Nil
import Derived.Shelf.SortM.Plain
import Derived.Shelf.SortM.SortNone
import Derived.Shelf.Strings.OnBuilder
import Derived.Shelf.Strings.Split
import Derived.Shelf.Strings.Cut
import Derived.Shelf.Strings.LastIndex
import Derived.Shelf.Strings.IndexAnyAll
import Derived.Shelf.SlicesE.Reverse
import Derived.Shelf.Strconv.Itoa3
import Derived.Test.YthkbglhnagkpcaaGreatDoorProg
open Option renaming some->iN
set_option linter.all false
set_option maxRecDepth 100000
set_option maxHeartbeats 4000000
namespace Go.Proofs
open Go.Proofs.Tryz
open Go.Shelf
def Tryz.aav:Go.Shelf.Ren:=⟨λ|7=>295|10=>353|n=>n,λ|23=>271|26=>9|3=>9|28=>381|27=>380|33=>76|n=>n,λ|n=>n⟩
theorem Tryz.auu:Go.Proofs.SlLaysZ.n7 prog Tryz.aav:=by constructor<;>first|kernel_rfl|(intro;kernel_rfl)|exact⟨Tryz.f295.name,by decide,Tryz.func295.trans (congrArg iN (by kernel_rfl))⟩|exact⟨Tryz.f353.name,by decide,Tryz.func353.trans (congrArg iN (by kernel_rfl))⟩
def Tryz.Un:Go.Shelf.Ren:=⟨λ|6=>294|8=>352|9=>75|11=>388|13=>132|12=>131|23=>202|24=>203|14=>193|15=>194|16=>195|17=>196|18=>197|19=>198|20=>199|21=>200|22=>201|25=>258|26=>259|27=>260|28=>261|29=>262|30=>263|31=>318|n=>n,λ|26=>9|28=>381|24=>23|37=>231|48=>295|50=>297|40=>288|39=>287|45=>292|51=>343|55=>347|57=>393|58=>301|33=>76|n=>n,λ|n=>n⟩
theorem Tryz.aqr:Go.Proofs.SlLaysZ.n6 prog Tryz.Un:=by constructor<;>first|kernel_rfl|(intro;kernel_rfl)|exact⟨Tryz.f294.name,by decide,Tryz.func294.trans (congrArg iN (by kernel_rfl))⟩|exact⟨Tryz.f352.name,by decide,Tryz.func352.trans (congrArg iN (by kernel_rfl))⟩|exact⟨Tryz.f388.name,by decide,Tryz.func388.trans (congrArg iN (by kernel_rfl))⟩
def Tryz.ale:Go.Shelf.Ren:=⟨λ|6=>75|8=>132|9=>131|19=>202|20=>203|21=>193|22=>194|23=>195|24=>196|25=>197|26=>198|27=>199|28=>200|29=>201|36=>258|31=>259|32=>260|37=>261|38=>262|39=>263|41=>318|n=>n,λ|27=>23|29=>9|32=>231|26=>23|44=>295|46=>297|36=>288|35=>287|41=>292|53=>343|57=>347|63=>393|64=>301|n=>n,λ|n=>n⟩
theorem Tryz.abS:Go.Proofs.SlLaysM.n6 prog Tryz.ale:=by constructor<;>first|kernel_rfl|(intro;kernel_rfl)|exact⟨Tryz.f75.name,by decide,Tryz.func75.trans (congrArg iN (by kernel_rfl))⟩|exact⟨Tryz.f131.name,by decide,Tryz.func131.trans (congrArg iN (by kernel_rfl))⟩|exact⟨Tryz.f193.name,by decide,Tryz.func193.trans (congrArg iN (by kernel_rfl))⟩|exact⟨Tryz.f194.name,by decide,Tryz.func194.trans (congrArg iN (by kernel_rfl))⟩|exact⟨Tryz.f195.name,by decide,Tryz.func195.trans (congrArg iN (by kernel_rfl))⟩|exact⟨Tryz.f196.name,by decide,Tryz.func196.trans (congrArg iN (by kernel_rfl))⟩|exact⟨Tryz.f197.name,by decide,Tryz.func197.trans (congrArg iN (by kernel_rfl))⟩|exact⟨Tryz.f198.name,by decide,Tryz.func198.trans (congrArg iN (by kernel_rfl))⟩|exact⟨Tryz.f199.name,by decide,Tryz.func199.trans (congrArg iN (by kernel_rfl))⟩|exact⟨Tryz.f200.name,by decide,Tryz.func200.trans (congrArg iN (by kernel_rfl))⟩|exact⟨Tryz.f201.name,by decide,Tryz.func201.trans (congrArg iN (by kernel_rfl))⟩|exact⟨Tryz.f258.name,by decide,Tryz.func258.trans (congrArg iN (by kernel_rfl))⟩|exact⟨Tryz.f261.name,by decide,Tryz.func261.trans (congrArg iN (by kernel_rfl))⟩|exact⟨Tryz.f262.name,by decide,Tryz.func262.trans (congrArg iN (by kernel_rfl))⟩|exact⟨Tryz.f263.name,by decide,Tryz.func263.trans (congrArg iN (by kernel_rfl))⟩|exact⟨Tryz.f318.name,by decide,Tryz.func318.trans (congrArg iN (by kernel_rfl))⟩
def Tryz.alf:Go.Shelf.Ren:=⟨λ|171=>174|243=>236|246=>298|283=>356|284=>357|285=>358|286=>359|129=>203|317=>389|318=>390|319=>391|320=>392|337=>403|338=>404|n=>n,λ|171=>409|53=>297|37=>137|173=>411|212=>432|51=>295|213=>433|46=>231|232=>444|233=>445|n=>n,λ|17=>1|18=>4|19=>5|n=>n⟩
theorem Tryz.auv:Go.Proofs.LaysM.n171 prog Tryz.alf:=by constructor<;>first|kernel_rfl|(intro;kernel_rfl)|(constructor<;>first|kernel_rfl|(intro;kernel_rfl))
def Tryz.ZR:Go.Shelf.Ren:=⟨λ|156=>72|165=>128|166=>66|169=>67|240=>118|241=>188|276=>182|277=>254|n=>n,λ|31=>23|72=>139|76=>142|70=>136|37=>137|75=>141|127=>215|164=>277|80=>144|n=>n,λ|n=>n⟩
theorem Tryz.aoT:Go.Proofs.Lays.n156 prog Tryz.ZR:=by constructor<;>first|kernel_rfl|(intro;kernel_rfl)
def Tryz.ajl:Go.Shelf.Ren:=⟨λ|146=>120|221=>183|268=>248|138=>249|143=>247|195=>307|197=>308|218=>309|219=>251|260=>363|217=>312|225=>313|224=>314|267=>315|266=>365|314=>366|n=>n,λ|31=>23|105=>362|46=>231|119=>435|139=>438|138=>437|146=>417|51=>295|n=>n,λ|1=>0|3=>2|4=>3|n=>n⟩
theorem Tryz.arq:Go.Proofs.Lays.n146 prog Tryz.ajl:=by constructor<;>first|kernel_rfl|(intro;kernel_rfl)
def Tryz.anK:Go.Shelf.Ren:=⟨λ|149=>257|222=>317|n=>n,λ|n=>n,λ|n=>n⟩
theorem Tryz.au5:Go.Proofs.Lays.n149 prog Tryz.anK:=by constructor<;>first|kernel_rfl|(intro;kernel_rfl)
def Tryz.ago:Go.Shelf.Ren:=⟨λ|153=>250|152=>310|226=>311|227=>229|228=>282|137=>341|119=>364|224=>314|225=>313|217=>312|266=>365|n=>n,λ|117=>322|116=>321|46=>231|124=>325|n=>n,λ|n=>n⟩
theorem Tryz.iaL:Go.Proofs.Lays.n153 prog Tryz.ago:=by constructor<;>first|kernel_rfl|(intro;kernel_rfl)
def Tryz.anL:Go.Shelf.Ren:=⟨λ|145=>123|220=>185|219=>251|217=>312|225=>313|224=>314|267=>315|266=>365|314=>366|n=>n,λ|59=>217|46=>231|146=>417|51=>295|n=>n,λ|1=>0|n=>n⟩
theorem Tryz.au6:Go.Proofs.Lays.n145 prog Tryz.anL:=by constructor<;>first|kernel_rfl|(intro;kernel_rfl)
def Tryz.anM:Go.Shelf.Ren:=⟨λ|35=>305|n=>n,λ|22=>137|23=>5|n=>n,λ|n=>n⟩
theorem Tryz.au8:Go.Proofs.SlLaysE.n35 prog Tryz.anM:=by constructor<;>first|kernel_rfl|(intro;kernel_rfl)|exact⟨Tryz.f305.name,by decide,Tryz.func305.trans (congrArg iN (by kernel_rfl))⟩
