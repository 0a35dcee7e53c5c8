import Derived.KernelRfl
import Derived.Shelf.SlIter.Nil
import Derived.Shelf.SortM.Plain
import Derived.Shelf.SortM.SortNone
import Derived.Shelf.SlGeneric
import Derived.Shelf.Strings.OnBuilder
import Derived.Shelf.Strings.Split
import Derived.Shelf.Strings.Cut
import Derived.Shelf.Strings.LastIndex
import Derived.Shelf.Strings.IndexAnyAll
import Derived.Shelf.Strings.Runes
import Derived.Shelf.Small.Strs
import Derived.Shelf.LaysM
import Derived.Shelf.SlLaysE
import Derived.Ground.SlgnProg
import Derived.Shelf.SlicesE.Reverse
import Derived.Shelf.Strconv.Itoa3
import Derived.Test.YtlgmlcgjmcmmgaaGreatDoorProg
set_option linter.all false
set_option maxRecDepth 100000
namespace Go.Proofs
open Go.Shelf
def Tryz.Wk:Go.Shelf.Ren:=⟨fun|7=>292|10=>347|n=>n,fun|23=>272|26=>9|3=>9|28=>375|27=>374|33=>84|n=>n,fun|n=>n⟩
theorem Tryz.aox:Go.Proofs.SlLaysZ.n7 Tryz.prog Tryz.Wk:=by constructor<;>first|kernel_rfl|(intro;kernel_rfl)|exact⟨Tryz.f292.name,by decide,Tryz.func292.trans (congrArg some (by kernel_rfl))⟩|exact⟨Tryz.f347.name,by decide,Tryz.func347.trans (congrArg some (by kernel_rfl))⟩
def Tryz.PV:Go.Shelf.Ren:=⟨fun|6=>291|8=>346|9=>112|11=>380|13=>172|12=>171|23=>226|24=>227|14=>217|15=>218|16=>219|17=>220|18=>221|19=>222|20=>223|21=>224|22=>225|25=>273|26=>274|27=>275|28=>276|29=>277|30=>278|31=>331|n=>n,fun|26=>9|28=>375|24=>23|37=>270|48=>314|50=>290|40=>309|39=>308|45=>148|51=>350|55=>354|57=>394|58=>281|33=>84|n=>n,fun|n=>n⟩
theorem Tryz.ak2:Go.Proofs.SlLaysZ.n6 Tryz.prog Tryz.PV:=by constructor<;>first|kernel_rfl|(intro;kernel_rfl)|exact⟨Tryz.f291.name,by decide,Tryz.func291.trans (congrArg some (by kernel_rfl))⟩|exact⟨Tryz.f346.name,by decide,Tryz.func346.trans (congrArg some (by kernel_rfl))⟩|exact⟨Tryz.f380.name,by decide,Tryz.func380.trans (congrArg some (by kernel_rfl))⟩
def Tryz.agE:Go.Shelf.Ren:=⟨fun|6=>112|8=>172|9=>171|19=>226|20=>227|21=>217|22=>218|23=>219|24=>220|25=>221|26=>222|27=>223|28=>224|29=>225|36=>273|31=>274|32=>275|37=>276|38=>277|39=>278|41=>331|n=>n,fun|27=>23|29=>9|32=>270|26=>23|44=>314|46=>290|36=>309|35=>308|41=>148|53=>350|57=>354|63=>394|64=>281|n=>n,fun|n=>n⟩
theorem Tryz.XJ:Go.Proofs.SlLaysM.n6 Tryz.prog Tryz.agE:=by constructor<;>first|kernel_rfl|(intro;kernel_rfl)|exact⟨Tryz.f112.name,by decide,Tryz.func112.trans (congrArg some (by kernel_rfl))⟩|exact⟨Tryz.f171.name,by decide,Tryz.func171.trans (congrArg some (by kernel_rfl))⟩|exact⟨Tryz.f217.name,by decide,Tryz.func217.trans (congrArg some (by kernel_rfl))⟩|exact⟨Tryz.f218.name,by decide,Tryz.func218.trans (congrArg some (by kernel_rfl))⟩|exact⟨Tryz.f219.name,by decide,Tryz.func219.trans (congrArg some (by kernel_rfl))⟩|exact⟨Tryz.f220.name,by decide,Tryz.func220.trans (congrArg some (by kernel_rfl))⟩|exact⟨Tryz.f221.name,by decide,Tryz.func221.trans (congrArg some (by kernel_rfl))⟩|exact⟨Tryz.f222.name,by decide,Tryz.func222.trans (congrArg some (by kernel_rfl))⟩|exact⟨Tryz.f223.name,by decide,Tryz.func223.trans (congrArg some (by kernel_rfl))⟩|exact⟨Tryz.f224.name,by decide,Tryz.func224.trans (congrArg some (by kernel_rfl))⟩|exact⟨Tryz.f225.name,by decide,Tryz.func225.trans (congrArg some (by kernel_rfl))⟩|exact⟨Tryz.f273.name,by decide,Tryz.func273.trans (congrArg some (by kernel_rfl))⟩|exact⟨Tryz.f276.name,by decide,Tryz.func276.trans (congrArg some (by kernel_rfl))⟩|exact⟨Tryz.f277.name,by decide,Tryz.func277.trans (congrArg some (by kernel_rfl))⟩|exact⟨Tryz.f278.name,by decide,Tryz.func278.trans (congrArg some (by kernel_rfl))⟩|exact⟨Tryz.f331.name,by decide,Tryz.func331.trans (congrArg some (by kernel_rfl))⟩
def Tryz.agF:Go.Shelf.Ren:=⟨fun|171=>178|243=>234|246=>293|283=>348|284=>349|285=>350|286=>351|129=>227|317=>381|318=>382|319=>383|320=>384|337=>395|338=>396|n=>n,fun|171=>401|53=>290|37=>140|173=>403|212=>424|51=>314|213=>425|46=>270|232=>436|233=>437|n=>n,fun|17=>1|18=>4|19=>5|n=>n⟩
theorem Tryz.aoy:Go.Proofs.LaysM.n171 Tryz.prog Tryz.agF:=by constructor<;>first|kernel_rfl|(intro;kernel_rfl)|(constructor<;>first|kernel_rfl|(intro;kernel_rfl))
def Tryz.VE:Go.Shelf.Ren:=⟨fun|156=>109|165=>168|166=>68|169=>69|240=>119|241=>212|276=>185|277=>269|n=>n,fun|31=>23|72=>142|76=>145|70=>139|37=>140|75=>144|127=>216|164=>278|80=>147|n=>n,fun|n=>n⟩
theorem Tryz.ajL:Go.Proofs.Lays.n156 Tryz.prog Tryz.VE:=by constructor<;>first|kernel_rfl|(intro;kernel_rfl)
def Tryz.aeX:Go.Shelf.Ren:=⟨fun|146=>160|221=>207|268=>263|138=>264|143=>262|195=>320|197=>321|218=>322|219=>266|260=>365|217=>325|225=>326|224=>327|267=>328|266=>367|314=>368|n=>n,fun|31=>23|105=>356|46=>270|119=>427|139=>430|138=>429|146=>414|51=>314|n=>n,fun|1=>0|3=>2|4=>3|n=>n⟩
theorem Tryz.alR:Go.Proofs.Lays.n146 Tryz.prog Tryz.aeX:=by constructor<;>first|kernel_rfl|(intro;kernel_rfl)
def Tryz.aiI:Go.Shelf.Ren:=⟨fun|149=>272|222=>330|n=>n,fun|n=>n,fun|n=>n⟩
theorem Tryz.aoX:Go.Proofs.Lays.n149 Tryz.prog Tryz.aiI:=by constructor<;>first|kernel_rfl|(intro;kernel_rfl)
def Tryz.abZ:Go.Shelf.Ren:=⟨fun|153=>265|152=>323|226=>324|227=>229|228=>279|137=>335|119=>366|224=>327|225=>326|217=>325|266=>367|n=>n,fun|117=>318|116=>317|46=>270|124=>321|n=>n,fun|n=>n⟩
theorem Tryz.iaL:Go.Proofs.Lays.n153 Tryz.prog Tryz.abZ:=by constructor<;>first|kernel_rfl|(intro;kernel_rfl)
def Tryz.aiJ:Go.Shelf.Ren:=⟨fun|145=>163|220=>209|219=>266|217=>325|225=>326|224=>327|267=>328|266=>367|314=>368|n=>n,fun|59=>256|46=>270|146=>414|51=>314|n=>n,fun|1=>0|n=>n⟩
theorem Tryz.aoY:Go.Proofs.Lays.n145 Tryz.prog Tryz.aiJ:=by constructor<;>first|kernel_rfl|(intro;kernel_rfl)
def Tryz.aiK:Go.Shelf.Ren:=⟨fun|35=>298|n=>n,fun|22=>140|23=>5|n=>n,fun|n=>n⟩
theorem Tryz.ao0:Go.Proofs.SlLaysE.n35 Tryz.prog Tryz.aiK:=by constructor<;>first|kernel_rfl|(intro;kernel_rfl)|exact⟨Tryz.f298.name,by decide,Tryz.func298.trans (congrArg some (by kernel_rfl))⟩
end Go.Proofs
