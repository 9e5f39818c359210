/- Texts LJ3. -/
import Derived.Test.YtjngkeajenankaaGreatDoorP18
import Derived.Test.YtjngkeajenankaaGreatDoorP19
import Derived.Test.YtjngkeajenankaaGreatDoorP20
import Derived.Test.YtjngkeajenankaaGreatDoorP21
set_option linter.unusedSimpArgs false
set_option linter.unusedVariables false
set_option maxRecDepth 100000
namespace Go.Ev
open Go.Proofs Go.Proofs.YtjngkeajenankaaGreatDoor
theorem andT {a b:Bool}(h1:a=true)(h2:b=true):(a && b)=true:=by rw[h1,h2];rfl
set_option maxHeartbeats 4000000 in
theorem jf3:joinedFacts Tryz.pinned.checked.prog 3 Tryz.f3 Rows.deriveTextMatchesReferenceSpec Rows.deriveTextMatchesReferenceRow=true:=by
 unfold joinedFacts
 exact(andT (andT (andT (andT (andT (andT (andT (andT (andT (andT (andT (andT (andT (andT (andT (andT (andT (andT (andT (andT (andT (andT (andT (andT (andT (andT (andT (andT (andT (andT (andT (by kernel_rfl) (by kernel_rfl)) (by kernel_rfl)) (by kernel_rfl)) (by kernel_rfl)) (by kernel_rfl)) (by kernel_rfl)) (by kernel_rfl)) (by kernel_rfl)) jInPlace) jUnfollowed) jRecurses) jNamed) (by kernel_rfl)) (by kernel_rfl)) (by kernel_rfl)) (by kernel_rfl)) (by kernel_rfl)) (by kernel_rfl)) (by kernel_rfl)) (by kernel_rfl)) (by kernel_rfl)) (by kernel_rfl)) (by kernel_rfl)) (by kernel_rfl)) (by kernel_rfl)) (by kernel_rfl)) (by kernel_rfl)) (by kernel_rfl)) (by kernel_rfl)) (by kernel_rfl)) (by kernel_rfl))
end Go.Ev
