import Derived.KernelRfl
import Derived.Shelf.SlIter.Nil
import Derived.Shelf.SortM.Plain
import Derived.Shelf.SortM.SortNone
import Derived.Shelf.SlGeneric
import Derived.Shelf.Strings.OnBuilder
import Derived.Shelf.Strings.Split
import Derived.Shelf.Strings.Cut
import Derived.Shelf.Strings.LastIndex
import Derived.Shelf.Strings.IndexAnyAll
import Derived.Shelf.Strings.Runes
import Derived.Shelf.Small.Strs
import Derived.Shelf.LaysM
import Derived.Shelf.SlLaysE
import Derived.Ground.SlgnProg
import Derived.Shelf.SlicesE.Reverse
import Derived.Shelf.Strconv.Itoa3
import Derived.Test.YtpgbhdldcmcenaaGreatDoorProg
set_option linter.all false
set_option maxRecDepth 100000
set_option maxHeartbeats 4000000
namespace Go.Proofs
open Go.Proofs.Tryz
open Go.Shelf
def Tryz.Xp:Go.Shelf.Ren:=⟨fun|7=>283|10=>342|n=>n,fun|23=>257|26=>9|3=>9|28=>369|27=>368|33=>61|n=>n,fun|n=>n⟩
theorem Tryz.apV:Go.Proofs.SlLaysZ.n7 prog Tryz.Xp:=by constructor<;>first|kernel_rfl|(intro;kernel_rfl)|exact⟨Tryz.f283.name,by decide,Tryz.func283.trans (congrArg some (by kernel_rfl))⟩|exact⟨Tryz.f342.name,by decide,Tryz.func342.trans (congrArg some (by kernel_rfl))⟩
def Tryz.Ra:Go.Shelf.Ren:=⟨fun|6=>282|8=>341|9=>72|11=>377|13=>124|12=>123|23=>191|24=>192|14=>182|15=>183|16=>184|17=>185|18=>186|19=>187|20=>188|21=>189|22=>190|25=>245|26=>246|27=>247|28=>248|29=>249|30=>250|31=>306|n=>n,fun|26=>9|28=>369|24=>23|37=>220|48=>283|50=>285|40=>276|39=>275|45=>280|51=>330|55=>334|57=>381|58=>287|33=>61|n=>n,fun|n=>n⟩
theorem Tryz.amn:Go.Proofs.SlLaysZ.n6 prog Tryz.Ra:=by constructor<;>first|kernel_rfl|(intro;kernel_rfl)|exact⟨Tryz.f282.name,by decide,Tryz.func282.trans (congrArg some (by kernel_rfl))⟩|exact⟨Tryz.f341.name,by decide,Tryz.func341.trans (congrArg some (by kernel_rfl))⟩|exact⟨Tryz.f377.name,by decide,Tryz.func377.trans (congrArg some (by kernel_rfl))⟩
def Tryz.ahE:Go.Shelf.Ren:=⟨fun|6=>72|8=>124|9=>123|19=>191|20=>192|21=>182|22=>183|23=>184|24=>185|25=>186|26=>187|27=>188|28=>189|29=>190|36=>245|31=>246|32=>247|37=>248|38=>249|39=>250|41=>306|n=>n,fun|27=>23|29=>9|32=>220|26=>23|44=>283|46=>285|36=>276|35=>275|41=>280|53=>330|57=>334|63=>381|64=>287|n=>n,fun|n=>n⟩
theorem Tryz.YM:Go.Proofs.SlLaysM.n6 prog Tryz.ahE:=by constructor<;>first|kernel_rfl|(intro;kernel_rfl)|exact⟨Tryz.f72.name,by decide,Tryz.func72.trans (congrArg some (by kernel_rfl))⟩|exact⟨Tryz.f123.name,by decide,Tryz.func123.trans (congrArg some (by kernel_rfl))⟩|exact⟨Tryz.f182.name,by decide,Tryz.func182.trans (congrArg some (by kernel_rfl))⟩|exact⟨Tryz.f183.name,by decide,Tryz.func183.trans (congrArg some (by kernel_rfl))⟩|exact⟨Tryz.f184.name,by decide,Tryz.func184.trans (congrArg some (by kernel_rfl))⟩|exact⟨Tryz.f185.name,by decide,Tryz.func185.trans (congrArg some (by kernel_rfl))⟩|exact⟨Tryz.f186.name,by decide,Tryz.func186.trans (congrArg some (by kernel_rfl))⟩|exact⟨Tryz.f187.name,by decide,Tryz.func187.trans (congrArg some (by kernel_rfl))⟩|exact⟨Tryz.f188.name,by decide,Tryz.func188.trans (congrArg some (by kernel_rfl))⟩|exact⟨Tryz.f189.name,by decide,Tryz.func189.trans (congrArg some (by kernel_rfl))⟩|exact⟨Tryz.f190.name,by decide,Tryz.func190.trans (congrArg some (by kernel_rfl))⟩|exact⟨Tryz.f245.name,by decide,Tryz.func245.trans (congrArg some (by kernel_rfl))⟩|exact⟨Tryz.f248.name,by decide,Tryz.func248.trans (congrArg some (by kernel_rfl))⟩|exact⟨Tryz.f249.name,by decide,Tryz.func249.trans (congrArg some (by kernel_rfl))⟩|exact⟨Tryz.f250.name,by decide,Tryz.func250.trans (congrArg some (by kernel_rfl))⟩|exact⟨Tryz.f306.name,by decide,Tryz.func306.trans (congrArg some (by kernel_rfl))⟩
def Tryz.ahF:Go.Shelf.Ren:=⟨fun|171=>163|243=>223|246=>286|283=>345|284=>346|285=>347|286=>348|129=>192|317=>378|318=>379|319=>380|320=>381|337=>392|338=>393|n=>n,fun|171=>398|53=>285|37=>132|173=>400|212=>421|51=>283|213=>422|46=>220|232=>433|233=>434|n=>n,fun|17=>1|18=>4|19=>5|n=>n⟩
theorem Tryz.apW:Go.Proofs.LaysM.n171 prog Tryz.ahF:=by constructor<;>first|kernel_rfl|(intro;kernel_rfl)|(constructor<;>first|kernel_rfl|(intro;kernel_rfl))
def Tryz.WB:Go.Shelf.Ren:=⟨fun|156=>69|165=>120|166=>63|169=>64|240=>110|241=>177|276=>171|277=>241|n=>n,fun|31=>23|72=>134|76=>137|70=>131|37=>132|75=>136|127=>204|164=>263|80=>139|n=>n,fun|n=>n⟩
theorem Tryz.ak1:Go.Proofs.Lays.n156 prog Tryz.WB:=by constructor<;>first|kernel_rfl|(intro;kernel_rfl)
def Tryz.afS:Go.Shelf.Ren:=⟨fun|146=>112|221=>172|268=>235|138=>236|143=>234|195=>295|197=>296|218=>297|219=>238|260=>352|217=>300|225=>301|224=>302|267=>303|266=>354|314=>355|n=>n,fun|31=>23|105=>350|46=>220|119=>424|139=>427|138=>426|146=>406|51=>283|n=>n,fun|1=>0|3=>2|4=>3|n=>n⟩
theorem Tryz.ani:Go.Proofs.Lays.n146 prog Tryz.afS:=by constructor<;>first|kernel_rfl|(intro;kernel_rfl)
def Tryz.ajQ:Go.Shelf.Ren:=⟨fun|149=>244|222=>305|n=>n,fun|n=>n,fun|n=>n⟩
theorem Tryz.aqw:Go.Proofs.Lays.n149 prog Tryz.ajQ:=by constructor<;>first|kernel_rfl|(intro;kernel_rfl)
def Tryz.ac1:Go.Shelf.Ren:=⟨fun|153=>237|152=>298|226=>299|227=>216|228=>270|137=>330|119=>353|224=>302|225=>301|217=>300|266=>354|n=>n,fun|117=>308|116=>307|46=>220|124=>311|n=>n,fun|n=>n⟩
theorem Tryz.iaL:Go.Proofs.Lays.n153 prog Tryz.ac1:=by constructor<;>first|kernel_rfl|(intro;kernel_rfl)
def Tryz.ajR:Go.Shelf.Ren:=⟨fun|145=>115|220=>174|219=>238|217=>300|225=>301|224=>302|267=>303|266=>354|314=>355|n=>n,fun|59=>206|46=>220|146=>406|51=>283|n=>n,fun|1=>0|n=>n⟩
theorem Tryz.aqx:Go.Proofs.Lays.n145 prog Tryz.ajR:=by constructor<;>first|kernel_rfl|(intro;kernel_rfl)
def Tryz.ajS:Go.Shelf.Ren:=⟨fun|35=>293|n=>n,fun|22=>132|23=>5|n=>n,fun|n=>n⟩
theorem Tryz.aqz:Go.Proofs.SlLaysE.n35 prog Tryz.ajS:=by constructor<;>first|kernel_rfl|(intro;kernel_rfl)|exact⟨Tryz.f293.name,by decide,Tryz.func293.trans (congrArg some (by kernel_rfl))⟩
end Go.Proofs
