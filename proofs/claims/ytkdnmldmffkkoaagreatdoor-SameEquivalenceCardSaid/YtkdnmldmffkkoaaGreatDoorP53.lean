/- Texts. -/
import Derived.Test.YtkdnmldmffkkoaaGreatDoorTie
import Derived.Test.YtkdnmldmffkkoaaGreatDoorCards
import Derived.SevenTiedAt
import Derived.Test.YtkdnmldmffkkoaaGreatDoorP52
set_option linter.unusedSimpArgs false
set_option linter.unusedVariables false
set_option maxRecDepth 100000
namespace Go.Ev
open Go.Proofs Go.Proofs.YtkdnmldmffkkoaaGreatDoor
theorem yi5 (h:Rows.SameEquivalenceSaid):Rows.SameEquivalenceCardSaid:=
 Claim7.holds_tied_plain_at .later [] [.data, .data, .data, .sentinel, .sentinel] true (true, "9dbc33fdebcb6a283d7b7a9fc500cd959228c065244eb2c1bef113eaa2244835") true
  h (fun _ h=>by cases h) (by kernel_rfl) (fun _ h=>by cases h) sameEquivalence_row_tie rfl ⟨rfl,rfl⟩ (by kernel_rfl) rfl
  (fun f fn hf qM=>by
   obtain rfl : f = 6 := Option.some.inj ((show Tryz.prog.funcNamed "pandect/pandectlaw12.SameEquivalence" = some 6 by kernel_rfl).symm.trans hf) |>.symm
   obtain rfl:fn=Tryz.f6:=(Option.some.inj (Tryz.func6.symm.trans qM)).symm;exact⟨by kernel_rfl,fun j t ht=>by
    rw[Tryz.params6]at ht;have hm:t∈[30,30,30,35]:=by simpa using Array.mem_of_getElem? ht
    have aR:([30,30,30,35].all fun u=>!Tryz.prog.wantsStandIn u)=true:=by kernel_rfl
    exact(show Tryz.prog.wantsStandIn t=false by simpa using List.all_eq_true.1 aR t hm)⟩)
  (by kernel_rfl)
end Go.Ev
