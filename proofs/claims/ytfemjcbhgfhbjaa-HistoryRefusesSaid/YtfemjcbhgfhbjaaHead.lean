/-
  act and head: the examples of the chapter.
-/
import Derived.Test.YtfemjcbhgfhbjaaAdded
namespace Go.Proofs.Ytfemjcbhgfhbjaa
open Go.RowKit

def restA : List Value := [.string ⟨#[]⟩, .string ⟨#[]⟩, .int .i64 0, .slice none 0 0, .slice none 0 0, .slice none 0 0, .slice none 0 0, .string ⟨#[]⟩, .string ⟨#[]⟩, .int .i64 0, .int .i64 0, .int .i64 0, .int .i64 0, .string ⟨#[]⟩, .int .i64 0, .int .i64 0, .slice none 0 0, .int .i64 0, .bool false, .string ⟨#[]⟩, .string ⟨#[]⟩, .int .i64 0, .string ⟨#[]⟩, .string ⟨#[]⟩, .int .i64 0, .slice none 0 0, .slice none 0 0, .string ⟨#[]⟩, .int .i64 0, .slice none 0 0, .string ⟨#[]⟩, .int .i64 0, .slice none 0 0, .slice none 0 0, .slice none 0 0, .string ⟨#[]⟩, .string ⟨#[]⟩, .string ⟨#[]⟩, .int .i64 0, .int .i64 0, .bool false, .string ⟨#[]⟩]
/-- The act that 'act' makes. -/
def actK (d o n i : Int) (id : ByteArray) : Kn := ⟨d, o, n, i, 3, id, d, restA, rfl, rfl⟩
theorem wpList_storeK {ops : Array Oper} {rest : List Oper} {op : Oper} {a : Act} {w : World} {Q : Exit → Act → World → Prop} (hgd : op.guard = none) (x y : Operand) (ho : op.op = .store 56 x y)
    (c : Array Value) (hx : a.eval x = .pointer (some ⟨w.heap.size, 0, none⟩)) (k : Kn) (hy : a.eval y = .agg k.cs) (hc : c.size = 49)
    (h : wpList Try.prog ops Q rest (a.put op.dst undef) (w.alloc (.cells k.cs 56))) : wpList Try.prog ops Q (op :: rest) a (w.alloc (.cells c 56)) := by
  refine wpList_plain hgd fun K hK => ?_
  unfold Oper.wp execOp
  have := run_storeK_new w c k (by simp [hc])
  simp only [ho, hx, hy, storeAt_K, Sem.run_bind, this, Result.andThen_ok]
  exact hK _ _ h
set_option maxRecDepth 100000 in
set_option maxHeartbeats 1000000 in
theorem act_c (d o n i : Int) (id : ByteArray) (w : World) :
    Calls Try.prog 18 #[.int .i64 d, .int .i64 o, .int .i64 n, .int .i64 i, .string id] w fun e w' => e = .returned (.agg (actK d o n i id).cs) ∧ Ext w w' := by
  go_enter Try.func18, Try.ntmps18
  go_wp2_with (refine wpList_storeK rfl (.tmp 10) (.tmp 18) rfl _ rfl (actK d o n i id) rfl rfl ?_)
  obtain ⟨dd, hu, hd⟩ := row56
  refine bodyPost_ret (v := .agg (actK d o n i id).cs) ?_ rfl ⟨rfl, Ext.new _ _⟩
  refine results_cell_row rfl _ _ w.heap.size 56 _ (0, 0) dd rfl (heap_alloc_last w _) hu ?_ (by rw [info56, (actK d o n i id).size])
  cases dd <;> first | rfl | cases hd

def bA : ByteArray := ⟨#[97]⟩
def bB : ByteArray := ⟨#[98]⟩
def bC : ByteArray := ⟨#[99]⟩
def bD : ByteArray := ⟨#[100]⟩
def bE : ByteArray := ⟨#[101]⟩
def kA : Kn := actK 5 0 1 0 bA
def kB : Kn := actK 3 1 1 0 bB
def kC : Kn := actK 5 0 1 1 bC
def kD : Kn := actK 7 0 2 0 bD
def kE : Kn := actK 6 0 1 0 bE
def kF : Kn := actK 6 8 1 0 bE
def s0 : St := ([], [])
def s1 : St := ([kA], [(0, 1, 0)])
def s2 : St := ([kB, kA], [(0, 1, 0), (1, 1, 0)])
def s3 : St := ([kB, kA, kC], [(0, 1, 0), (1, 1, 0), (0, 1, 1)])
def s4 : St := ([kB, kA, kC, kD], [(0, 1, 0), (1, 1, 0), (0, 1, 1), (0, 2, 0)])
theorem st1 : stepK s0 kA = (s1, 0) := rfl
theorem st2 : stepK s1 kB = (s2, 0) := rfl
theorem st3 : stepK s2 kC = (s3, 0) := rfl
theorem st4 : stepK s3 kD = (s4, 0) := rfl
theorem st5 : stepK s4 kE = (s4, 9) := rfl
theorem st6 : stepK s4 kF = (s4, 1) := rfl
theorem inv0 : Inv s0.1 s0.2 := Inv.nil
theorem inv1 : Inv s1.1 s1.2 := stepK_inv inv0 kA
theorem inv2 : Inv s2.1 s2.2 := stepK_inv inv1 kB
theorem inv3 : Inv s3.1 s3.2 := stepK_inv inv2 kC
theorem inv4 : Inv s4.1 s4.2 := stepK_inv inv3 kD
theorem at5 : atK s4.1 5 = [kB, kA, kC] := rfl
theorem at2 : atK s4.1 2 = [] := rfl
theorem at7 : atK s4.1 7 = [kB, kA, kC, kD] := rfl
theorem atMax : atK s4.1 1000000 = [kB, kA, kC, kD] := rfl
theorem sinceC : sinceK [kB, kA, kC, kD] bC = (5, true) := by decide +kernel
theorem sinceE : sinceK [kB, kA, kC, kD] bE = (0, false) := by decide +kernel
theorem ordAB : cmpL kA.pl kB.pl = 1 := rfl
theorem ordAC : cmpL kA.pl kC.pl = -1 := rfl
theorem sameBAC : sameK [kB, kA, kC] [kB, kA, kC] = true := by simp [sameK, eqv_refl]
end Go.Proofs.Ytfemjcbhgfhbjaa
