import Derived.KernelRfl
import Derived.Shelf.SlIter.Nil
import Derived.Shelf.SortM.Plain
import Derived.Shelf.SortM.SortNone
import Derived.Shelf.SlGeneric
import Derived.Shelf.Strings.OnBuilder
import Derived.Shelf.Strings.Split
import Derived.Shelf.Strings.Cut
import Derived.Shelf.Strings.LastIndex
import Derived.Shelf.Strings.IndexAnyAll
import Derived.Shelf.Strings.Runes
import Derived.Shelf.Small.Strs
import Derived.Shelf.LaysM
import Derived.Shelf.SlLaysE
import Derived.Ground.SlgnProg
import Derived.Shelf.SlicesE.Reverse
import Derived.Shelf.Strconv.Itoa3
import Derived.Test.YtjgkapeknmdedaaGreatDoorProg
set_option linter.all false
set_option maxRecDepth 100000
namespace Go.Proofs
open Go.Shelf
def Tryz.Wo:Go.Shelf.Ren:=⟨fun|7=>287|10=>346|n=>n,fun|23=>267|26=>9|3=>9|28=>376|27=>375|33=>88|n=>n,fun|n=>n⟩
theorem Tryz.aou:Go.Proofs.SlLaysZ.n7 Tryz.prog Tryz.Wo:=by constructor<;>first|kernel_rfl|(intro;kernel_rfl)|exact⟨Tryz.f287.name,by decide,Tryz.func287.trans (congrArg some (by kernel_rfl))⟩|exact⟨Tryz.f346.name,by decide,Tryz.func346.trans (congrArg some (by kernel_rfl))⟩
def Tryz.P9:Go.Shelf.Ren:=⟨fun|6=>286|8=>345|9=>104|11=>381|13=>162|12=>161|23=>217|24=>218|14=>208|15=>209|16=>210|17=>211|18=>212|19=>213|20=>214|21=>215|22=>216|25=>268|26=>269|27=>270|28=>271|29=>272|30=>273|31=>330|n=>n,fun|26=>9|28=>376|24=>23|37=>265|48=>311|50=>282|40=>305|39=>304|45=>283|51=>351|55=>355|57=>398|58=>286|33=>88|n=>n,fun|n=>n⟩
theorem Tryz.akZ:Go.Proofs.SlLaysZ.n6 Tryz.prog Tryz.P9:=by constructor<;>first|kernel_rfl|(intro;kernel_rfl)|exact⟨Tryz.f286.name,by decide,Tryz.func286.trans (congrArg some (by kernel_rfl))⟩|exact⟨Tryz.f345.name,by decide,Tryz.func345.trans (congrArg some (by kernel_rfl))⟩|exact⟨Tryz.f381.name,by decide,Tryz.func381.trans (congrArg some (by kernel_rfl))⟩
def Tryz.agG:Go.Shelf.Ren:=⟨fun|6=>104|8=>162|9=>161|19=>217|20=>218|21=>208|22=>209|23=>210|24=>211|25=>212|26=>213|27=>214|28=>215|29=>216|36=>268|31=>269|32=>270|37=>271|38=>272|39=>273|41=>330|n=>n,fun|27=>23|29=>9|32=>265|26=>23|44=>311|46=>282|36=>305|35=>304|41=>283|53=>351|57=>355|63=>398|64=>286|n=>n,fun|n=>n⟩
theorem Tryz.XO:Go.Proofs.SlLaysM.n6 Tryz.prog Tryz.agG:=by constructor<;>first|kernel_rfl|(intro;kernel_rfl)|exact⟨Tryz.f104.name,by decide,Tryz.func104.trans (congrArg some (by kernel_rfl))⟩|exact⟨Tryz.f161.name,by decide,Tryz.func161.trans (congrArg some (by kernel_rfl))⟩|exact⟨Tryz.f208.name,by decide,Tryz.func208.trans (congrArg some (by kernel_rfl))⟩|exact⟨Tryz.f209.name,by decide,Tryz.func209.trans (congrArg some (by kernel_rfl))⟩|exact⟨Tryz.f210.name,by decide,Tryz.func210.trans (congrArg some (by kernel_rfl))⟩|exact⟨Tryz.f211.name,by decide,Tryz.func211.trans (congrArg some (by kernel_rfl))⟩|exact⟨Tryz.f212.name,by decide,Tryz.func212.trans (congrArg some (by kernel_rfl))⟩|exact⟨Tryz.f213.name,by decide,Tryz.func213.trans (congrArg some (by kernel_rfl))⟩|exact⟨Tryz.f214.name,by decide,Tryz.func214.trans (congrArg some (by kernel_rfl))⟩|exact⟨Tryz.f215.name,by decide,Tryz.func215.trans (congrArg some (by kernel_rfl))⟩|exact⟨Tryz.f216.name,by decide,Tryz.func216.trans (congrArg some (by kernel_rfl))⟩|exact⟨Tryz.f268.name,by decide,Tryz.func268.trans (congrArg some (by kernel_rfl))⟩|exact⟨Tryz.f271.name,by decide,Tryz.func271.trans (congrArg some (by kernel_rfl))⟩|exact⟨Tryz.f272.name,by decide,Tryz.func272.trans (congrArg some (by kernel_rfl))⟩|exact⟨Tryz.f273.name,by decide,Tryz.func273.trans (congrArg some (by kernel_rfl))⟩|exact⟨Tryz.f330.name,by decide,Tryz.func330.trans (congrArg some (by kernel_rfl))⟩
def Tryz.agH:Go.Shelf.Ren:=⟨fun|171=>169|243=>227|246=>290|283=>349|284=>350|285=>351|286=>352|129=>218|317=>382|318=>383|319=>384|320=>385|337=>396|338=>397|n=>n,fun|171=>405|53=>282|37=>108|173=>407|212=>428|51=>311|213=>429|46=>265|232=>440|233=>441|n=>n,fun|17=>1|18=>4|19=>5|n=>n⟩
theorem Tryz.aov:Go.Proofs.LaysM.n171 Tryz.prog Tryz.agH:=by constructor<;>first|kernel_rfl|(intro;kernel_rfl)|(constructor<;>first|kernel_rfl|(intro;kernel_rfl))
def Tryz.VG:Go.Shelf.Ren:=⟨fun|156=>101|165=>158|166=>42|169=>43|240=>65|241=>203|276=>111|277=>264|n=>n,fun|31=>23|72=>110|76=>113|70=>107|37=>108|75=>112|127=>141|164=>207|80=>115|n=>n,fun|n=>n⟩
theorem Tryz.ajH:Go.Proofs.Lays.n156 Tryz.prog Tryz.VG:=by constructor<;>first|kernel_rfl|(intro;kernel_rfl)
def Tryz.ae0:Go.Shelf.Ren:=⟨fun|146=>150|221=>198|268=>258|138=>259|143=>257|195=>319|197=>320|218=>321|219=>261|260=>366|217=>324|225=>325|224=>326|267=>327|266=>368|314=>369|n=>n,fun|31=>23|105=>357|46=>265|119=>431|139=>434|138=>433|146=>418|51=>311|n=>n,fun|1=>0|3=>2|4=>3|n=>n⟩
theorem Tryz.alO:Go.Proofs.Lays.n146 Tryz.prog Tryz.ae0:=by constructor<;>first|kernel_rfl|(intro;kernel_rfl)
def Tryz.aiF:Go.Shelf.Ren:=⟨fun|149=>267|222=>329|n=>n,fun|n=>n,fun|n=>n⟩
theorem Tryz.aoV:Go.Proofs.Lays.n149 Tryz.prog Tryz.aiF:=by constructor<;>first|kernel_rfl|(intro;kernel_rfl)
def Tryz.ab4:Go.Shelf.Ren:=⟨fun|153=>260|152=>322|226=>323|227=>220|228=>274|137=>334|119=>367|224=>326|225=>325|217=>324|266=>368|n=>n,fun|117=>315|116=>314|46=>265|124=>318|n=>n,fun|n=>n⟩
theorem Tryz.iaL:Go.Proofs.Lays.n153 Tryz.prog Tryz.ab4:=by constructor<;>first|kernel_rfl|(intro;kernel_rfl)
def Tryz.aiG:Go.Shelf.Ren:=⟨fun|145=>153|220=>200|219=>261|217=>324|225=>325|224=>326|267=>327|266=>368|314=>369|n=>n,fun|59=>251|46=>265|146=>418|51=>311|n=>n,fun|1=>0|n=>n⟩
theorem Tryz.aoW:Go.Proofs.Lays.n145 Tryz.prog Tryz.aiG:=by constructor<;>first|kernel_rfl|(intro;kernel_rfl)
def Tryz.aiH:Go.Shelf.Ren:=⟨fun|35=>297|n=>n,fun|22=>108|23=>5|n=>n,fun|n=>n⟩
theorem Tryz.aoY:Go.Proofs.SlLaysE.n35 Tryz.prog Tryz.aiH:=by constructor<;>first|kernel_rfl|(intro;kernel_rfl)|exact⟨Tryz.f297.name,by decide,Tryz.func297.trans (congrArg some (by kernel_rfl))⟩
end Go.Proofs
