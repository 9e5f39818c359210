/- Texts. -/
import Derived.Test.YtkdnmldmffkkoaaGreatDoorTie
import Derived.Test.YtkdnmldmffkkoaaGreatDoorCards
import Derived.SevenTiedAt
import Derived.Test.YtkdnmldmffkkoaaGreatDoorP17
set_option linter.all false
set_option maxRecDepth 100000
namespace Go.Ev
open Go.Proofs Go.Proofs.YtkdnmldmffkkoaaGreatDoor
theorem ylo (h:Rows.SameCasesSaid):Rows.SameCasesCardSaid:=
 Claim7.holds_tied_plain_at .later [] [.data, .data, .data, .sentinel, .sentinel] true (true, "9dbc33fdebcb6a283d7b7a9fc500cd959228c065244eb2c1bef113eaa2244835") true
  h (fun _ h=>by cases h) (by kernel_rfl) (fun _ h=>by cases h) sameCases_row_tie rfl ⟨rfl,rfl⟩ (by kernel_rfl) rfl
  (fun f fn hf uT=>by
   obtain rfl : f = 7 := Option.some.inj ((show Tryz.prog.funcNamed "pandect/pandectlaw12.SameCases" = some 7 by kernel_rfl).symm.trans hf) |>.symm
   obtain rfl:fn=Tryz.f7:=(Option.some.inj (Tryz.func7.symm.trans uT)).symm;exact⟨by kernel_rfl,fun j t ht=>by
    rw[Tryz.params7]at ht;have hm:t∈[30,30,41,35]:=by simpa using Array.mem_of_getElem? ht
    have aQ:([30,30,41,35].all fun u=>!Tryz.prog.wantsStandIn u)=true:=by kernel_rfl
    exact(show Tryz.prog.wantsStandIn t=false by simpa using List.all_eq_true.1 aQ t hm)⟩)
  (by kernel_rfl)
end Go.Ev
