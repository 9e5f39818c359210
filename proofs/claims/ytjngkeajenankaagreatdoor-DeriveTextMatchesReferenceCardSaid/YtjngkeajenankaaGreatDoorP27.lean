/- Texts LK3. -/
import Derived.Test.YtjngkeajenankaaGreatDoorTie
import Derived.Test.YtjngkeajenankaaGreatDoorCards
import Derived.Test.YtjngkeajenankaaGreatDoorP23
import Derived.Test.YtjngkeajenankaaGreatDoorP24
import Derived.Test.YtjngkeajenankaaGreatDoorP25
import Derived.Test.YtjngkeajenankaaGreatDoorP26
set_option linter.unusedSimpArgs false
set_option linter.unusedVariables false
set_option maxRecDepth 100000
namespace Go.Ev
open Go.Proofs Go.Proofs.YtjngkeajenankaaGreatDoor
theorem cardLaw3 (h:Rows.DeriveTextMatchesReferenceSaid):Rows.DeriveTextMatchesReferenceCardSaid:=
 Claim7.holds_tied_plain_at .later [] [.data, .data, .data, .data, .sentinel, .sentinel, .pinned] true (true, "c873133450c4b307342f8eac7fc58fb3ae04b8728e4bd3e8061e92a8ef3d6752") true
  h (fun _ h=>by cases h) kWf (fun _ h=>by cases h) deriveTextMatchesReference_row_tie rfl ⟨rfl,rfl⟩ kMain rfl
  (fun f fn hf hfn=>by
   obtain rfl:f=3:=Option.some.inj (kNamed.symm.trans hf) |>.symm
   obtain rfl:fn=Tryz.f3:=(Option.some.inj (Tryz.func3.symm.trans hfn)).symm
   exact⟨kLooks,fun j t ht=>by
    rw[Tryz.params3]at ht
    have hm:t∈[30]:=by simpa using Array.mem_of_getElem? ht
    obtain rfl:t=30:=by simpa using hm
    exact kStand⟩)
  kGoes
end Go.Ev
