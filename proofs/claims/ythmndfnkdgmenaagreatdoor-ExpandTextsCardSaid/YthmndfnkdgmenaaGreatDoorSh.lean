import Derived.KernelRfl
import Derived.Shelf.SlIter.Nil
import Derived.Shelf.SortM.Plain
import Derived.Shelf.SortM.SortNone
import Derived.Shelf.SlGeneric
import Derived.Shelf.Strings.OnBuilder
import Derived.Shelf.Strings.Split
import Derived.Shelf.Strings.Cut
import Derived.Shelf.Strings.LastIndex
import Derived.Shelf.Strings.IndexAnyAll
import Derived.Shelf.Strings.Runes
import Derived.Shelf.Small.Strs
import Derived.Shelf.LaysM
import Derived.Shelf.SlLaysE
import Derived.Ground.SlgnProg
import Derived.Shelf.SlicesE.Reverse
import Derived.Shelf.Strconv.Itoa3
import Derived.Test.YthmndfnkdgmenaaGreatDoorProg
set_option linter.all false
set_option maxRecDepth 100000
set_option maxHeartbeats 4000000
namespace Go.Proofs
open Go.Shelf
def Tryz.Wy:Go.Shelf.Ren:=⟨fun|7=>266|10=>325|n=>n,fun|23=>224|26=>9|3=>9|28=>351|27=>350|33=>91|n=>n,fun|n=>n⟩
theorem Tryz.aoC:Go.Proofs.SlLaysZ.n7 Tryz.prog Tryz.Wy:=by constructor<;>first|kernel_rfl|(intro;kernel_rfl)|exact⟨Tryz.f266.name,by decide,Tryz.func266.trans (congrArg some (by kernel_rfl))⟩|exact⟨Tryz.f325.name,by decide,Tryz.func325.trans (congrArg some (by kernel_rfl))⟩
def Tryz.Qi:Go.Shelf.Ren:=⟨fun|6=>265|8=>324|9=>124|11=>371|13=>187|12=>186|23=>251|24=>252|14=>242|15=>243|16=>244|17=>245|18=>246|19=>247|20=>248|21=>249|22=>250|25=>302|26=>303|27=>304|28=>305|29=>306|30=>307|31=>357|n=>n,fun|26=>9|28=>351|24=>23|37=>272|48=>328|50=>302|40=>322|39=>321|45=>290|51=>379|55=>383|57=>406|58=>187|33=>91|n=>n,fun|n=>n⟩
theorem Tryz.ala:Go.Proofs.SlLaysZ.n6 Tryz.prog Tryz.Qi:=by constructor<;>first|kernel_rfl|(intro;kernel_rfl)|exact⟨Tryz.f265.name,by decide,Tryz.func265.trans (congrArg some (by kernel_rfl))⟩|exact⟨Tryz.f324.name,by decide,Tryz.func324.trans (congrArg some (by kernel_rfl))⟩|exact⟨Tryz.f371.name,by decide,Tryz.func371.trans (congrArg some (by kernel_rfl))⟩
def Tryz.agM:Go.Shelf.Ren:=⟨fun|6=>124|8=>187|9=>186|19=>251|20=>252|21=>242|22=>243|23=>244|24=>245|25=>246|26=>247|27=>248|28=>249|29=>250|36=>302|31=>303|32=>304|37=>305|38=>306|39=>307|41=>357|n=>n,fun|27=>23|29=>9|32=>272|26=>23|44=>328|46=>302|36=>322|35=>321|41=>290|53=>379|57=>383|63=>406|64=>187|n=>n,fun|n=>n⟩
theorem Tryz.X0:Go.Proofs.SlLaysM.n6 Tryz.prog Tryz.agM:=by constructor<;>first|kernel_rfl|(intro;kernel_rfl)|exact⟨Tryz.f124.name,by decide,Tryz.func124.trans (congrArg some (by kernel_rfl))⟩|exact⟨Tryz.f186.name,by decide,Tryz.func186.trans (congrArg some (by kernel_rfl))⟩|exact⟨Tryz.f242.name,by decide,Tryz.func242.trans (congrArg some (by kernel_rfl))⟩|exact⟨Tryz.f243.name,by decide,Tryz.func243.trans (congrArg some (by kernel_rfl))⟩|exact⟨Tryz.f244.name,by decide,Tryz.func244.trans (congrArg some (by kernel_rfl))⟩|exact⟨Tryz.f245.name,by decide,Tryz.func245.trans (congrArg some (by kernel_rfl))⟩|exact⟨Tryz.f246.name,by decide,Tryz.func246.trans (congrArg some (by kernel_rfl))⟩|exact⟨Tryz.f247.name,by decide,Tryz.func247.trans (congrArg some (by kernel_rfl))⟩|exact⟨Tryz.f248.name,by decide,Tryz.func248.trans (congrArg some (by kernel_rfl))⟩|exact⟨Tryz.f249.name,by decide,Tryz.func249.trans (congrArg some (by kernel_rfl))⟩|exact⟨Tryz.f250.name,by decide,Tryz.func250.trans (congrArg some (by kernel_rfl))⟩|exact⟨Tryz.f302.name,by decide,Tryz.func302.trans (congrArg some (by kernel_rfl))⟩|exact⟨Tryz.f305.name,by decide,Tryz.func305.trans (congrArg some (by kernel_rfl))⟩|exact⟨Tryz.f306.name,by decide,Tryz.func306.trans (congrArg some (by kernel_rfl))⟩|exact⟨Tryz.f307.name,by decide,Tryz.func307.trans (congrArg some (by kernel_rfl))⟩|exact⟨Tryz.f357.name,by decide,Tryz.func357.trans (congrArg some (by kernel_rfl))⟩
def Tryz.agN:Go.Shelf.Ren:=⟨fun|171=>137|243=>199|246=>269|283=>328|284=>329|285=>330|286=>331|129=>252|317=>372|318=>373|319=>374|320=>375|337=>393|338=>394|n=>n,fun|171=>392|53=>302|37=>114|173=>394|212=>418|51=>328|213=>419|46=>272|232=>434|233=>435|n=>n,fun|17=>1|18=>4|19=>5|n=>n⟩
theorem Tryz.aoD:Go.Proofs.LaysM.n171 Tryz.prog Tryz.agN:=by constructor<;>first|kernel_rfl|(intro;kernel_rfl)|(constructor<;>first|kernel_rfl|(intro;kernel_rfl))
def Tryz.VU:Go.Shelf.Ren:=⟨fun|156=>121|165=>183|166=>51|169=>52|240=>91|241=>237|276=>144|277=>298|n=>n,fun|31=>23|72=>116|76=>121|70=>113|37=>114|75=>120|127=>167|164=>234|80=>123|n=>n,fun|n=>n⟩
theorem Tryz.ajQ:Go.Proofs.Lays.n156 Tryz.prog Tryz.VU:=by constructor<;>first|kernel_rfl|(intro;kernel_rfl)
def Tryz.ae5:Go.Shelf.Ren:=⟨fun|146=>175|221=>232|268=>292|138=>293|143=>291|195=>348|197=>309|218=>349|219=>295|260=>358|217=>351|225=>352|224=>353|267=>354|266=>386|314=>387|n=>n,fun|31=>23|105=>330|46=>272|119=>426|139=>429|138=>428|146=>424|51=>328|n=>n,fun|1=>0|3=>2|4=>3|n=>n⟩
theorem Tryz.alX:Go.Proofs.Lays.n146 Tryz.prog Tryz.ae5:=by constructor<;>first|kernel_rfl|(intro;kernel_rfl)
def Tryz.aiO:Go.Shelf.Ren:=⟨fun|149=>301|222=>356|n=>n,fun|n=>n,fun|n=>n⟩
theorem Tryz.ao7:Go.Proofs.Lays.n149 Tryz.prog Tryz.aiO:=by constructor<;>first|kernel_rfl|(intro;kernel_rfl)
def Tryz.acg:Go.Shelf.Ren:=⟨fun|153=>294|152=>310|226=>350|227=>192|228=>253|137=>313|119=>359|224=>353|225=>352|217=>351|266=>386|n=>n,fun|117=>276|116=>275|46=>272|124=>279|n=>n,fun|n=>n⟩
theorem Tryz.iaL:Go.Proofs.Lays.n153 Tryz.prog Tryz.acg:=by constructor<;>first|kernel_rfl|(intro;kernel_rfl)
def Tryz.aiP:Go.Shelf.Ren:=⟨fun|145=>178|220=>234|219=>295|217=>351|225=>352|224=>353|267=>354|266=>386|314=>387|n=>n,fun|59=>258|46=>272|146=>424|51=>328|n=>n,fun|1=>0|n=>n⟩
theorem Tryz.ao8:Go.Proofs.Lays.n145 Tryz.prog Tryz.aiP:=by constructor<;>first|kernel_rfl|(intro;kernel_rfl)
def Tryz.aiQ:Go.Shelf.Ren:=⟨fun|35=>276|n=>n,fun|22=>114|23=>5|n=>n,fun|n=>n⟩
theorem Tryz.apa:Go.Proofs.SlLaysE.n35 Tryz.prog Tryz.aiQ:=by constructor<;>first|kernel_rfl|(intro;kernel_rfl)|exact⟨Tryz.f276.name,by decide,Tryz.func276.trans (congrArg some (by kernel_rfl))⟩
end Go.Proofs
