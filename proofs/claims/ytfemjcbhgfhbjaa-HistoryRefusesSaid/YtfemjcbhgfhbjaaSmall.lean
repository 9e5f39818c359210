/-
  The small functions: comparing.
-/
import Derived.Test.YtfemjcbhgfhbjaaBase
import Derived.Deep.QuietTactic
import Derived.BigQuiet
import Derived.Deep.RegionHeld3
import Derived.Deep.RegionWith
namespace Go.Proofs.Ytfemjcbhgfhbjaa
open Go.RowKit

def cmpI (a b : Int) : Int := if a < b then -1 else if b < a then 1 else 0
def cmpL : List Int → List Int → Int
  | x :: xs, y :: ys => if cmpI x y = 0 then cmpL xs ys else cmpI x y
  | _, _ => 0
theorem ret_int {k : IntKind} {a b : Int} (h : a = b) : Ending.returned (.int k a) = .returned (.int k b) := by rw [h]

set_option maxHeartbeats 400000 in
theorem isNaN_c (a : Int) (w : World) :
    Calls Try.prog 32 #[.int .i64 a] w fun e w' => e = .returned (.bool false) ∧ w = w' := by
  go_enter Try.func32, Try.ntmps32
  go_wp2
  go_ret
  exact ⟨by simp, rfl⟩

set_option maxHeartbeats 400000 in
theorem sign_c (a b : Int) (w : World) :
    Calls Try.prog 27 #[.int .i64 a, .int .i64 b] w fun e w' => e = .returned (.int .i64 (cmpI a b)) ∧ w = w' := by
  by_cases h1 : a < b
  · go_enter Try.func27, Try.ntmps27
    go_wp2
    go_ret
    exact ⟨ret_int (by unfold cmpI; rw [if_pos h1]), rfl⟩
  · by_cases h2 : b < a
    · go_enter Try.func27, Try.ntmps27
      go_wp2
      go_ret
      exact ⟨ret_int (by unfold cmpI; rw [if_neg (by omega), if_pos h2]), rfl⟩
    · go_enter Try.func27, Try.ntmps27
      go_wp2
      go_ret
      exact ⟨ret_int (by unfold cmpI; rw [if_neg (by omega), if_neg (by omega)]), rfl⟩

set_option maxHeartbeats 400000 in
theorem compare1_c (a b : Int) (w : World) :
    Calls Try.prog 30 #[.int .i64 a, .int .i64 b] w fun e w' => e = .returned (.int .i64 (cmpI a b)) ∧ w = w' := by
  by_cases h1 : a < b
  · go_enter Try.func30, Try.ntmps30
    go_wp2_with (go_at_call 32; refine (isNaN_c _ _).mono ?_; rintro e w' ⟨rfl, rfl⟩)
    go_ret
    exact ⟨ret_int (by unfold cmpI; rw [if_pos h1]), rfl⟩
  · by_cases h2 : b < a
    · go_enter Try.func30, Try.ntmps30
      go_wp2_with (go_at_call 32; refine (isNaN_c _ _).mono ?_; rintro e w' ⟨rfl, rfl⟩)
      go_ret
      exact ⟨ret_int (by unfold cmpI; rw [if_neg (by omega), if_pos h2]), rfl⟩
    · go_enter Try.func30, Try.ntmps30
      go_wp2_with (go_at_call 32; refine (isNaN_c _ _).mono ?_; rintro e w' ⟨rfl, rfl⟩)
      go_ret
      exact ⟨ret_int (by unfold cmpI; rw [if_neg (by omega), if_neg (by omega)]), rfl⟩

set_option maxHeartbeats 400000 in
theorem of_c (k : Kn) (w : World) :
    Calls Try.prog 21 #[.agg k.cs] w fun e w' => e = .returned (.agg #[.int .i64 k.d, .int .i64 k.o, .int .i64 k.n, .int .i64 k.i]) ∧ Ext w w' := by
  go_enter Try.func21, Try.ntmps21
  go_wp2
  exact bodyPost_ret (v := .agg #[.int .i64 k.d, .int .i64 k.o, .int .i64 k.n, .int .i64 k.i]) (by simp [results, Try.results21, go_sem]) rfl ⟨rfl, (Ext.new _ _).alloc _⟩

def Ints (w : World) (b o : Nat) (xs : List Int) : Prop := ∀ j, j < xs.length → w.cell? ⟨b, o + j, none⟩ = some (.int .i64 (xs.getD j 0))

theorem cmpL_step {w : World} {b1 o1 b2 o2 : Nat} {xs ys : List Int} {k : Nat} (hl : ys.length = xs.length) (hx : Ints w b1 o1 xs) (hy : Ints w b2 o2 ys) (hk : k < xs.length) :
    ∃ x y : Int, w.cell? ⟨b1, o1 + k, none⟩ = some (.int .i64 x) ∧ w.cell? ⟨b2, o2 + k, none⟩ = some (.int .i64 y) ∧
      Hid (cmpL (xs.drop k) (ys.drop k) = if cmpI x y = 0 then cmpL (xs.drop (k + 1)) (ys.drop (k + 1)) else cmpI x y) := by
  refine ⟨_, _, hx k hk, hy k (by omega), ?_⟩
  show _ = _
  rw [List.drop_eq_getElem_cons hk, List.drop_eq_getElem_cons (l := ys) (i := k) (by omega)]
  simp only [cmpL]
  rw [List.getD_eq_getElem?_getD, List.getD_eq_getElem?_getD, List.getElem?_eq_getElem hk, List.getElem?_eq_getElem (l := ys) (i := k) (by omega)]
  rfl

set_option maxHeartbeats 400000 in
theorem compare_c (b1 o1 c1 b2 o2 c2 : Nat) (xs ys : List Int) (w : World) (hl : ys.length = xs.length) (hm : xs.length ≤ 1000) (hx : Ints w b1 o1 xs) (hy : Ints w b2 o2 ys) :
    Calls Try.prog 26 #[.slice (some ⟨b1, o1, none⟩) xs.length c1, .slice (some ⟨b2, o2, none⟩) xs.length c2] w fun e w' => e = .returned (.int .i64 (cmpL xs ys)) ∧ w = w' := by
  have HL := Lib.hid hl
  have HX := Lib.hid hx
  have HY := Lib.hid hy
  clear hl hx hy
  go_enter Try.func26, Try.ntmps26
  go_wp2_with fail
  go_loop [10] (fun i => ∃ k : Nat, k ≤ xs.length ∧ i = .int .i64 k ∧ Hid (cmpL xs ys = cmpL (xs.drop k) (ys.drop k))) (fun i => xs.length - (intOf i).toNat)
  case atStart => exact ⟨0, Nat.zero_le _, rfl, rfl⟩
  case round =>
    obtain ⟨k, hk, rfl, hc⟩ := hrel
    by_cases hlt : k < xs.length
    · obtain ⟨x, y, hxc, hyc, hd⟩ := cmpL_step HL.out HX.out HY.out hlt
      by_cases h0 : cmpI x y = 0
      · have h0b : (cmpI x y != 0) = false := by simp [h0]
        have hc' : Hid (cmpL xs ys = cmpL (xs.drop (k + 1)) (ys.drop (k + 1))) := hc.out.trans (hd.out.trans (if_pos h0))
        clear h0 hd
        go_wp2_with (go_at_call 30; refine (compare1_c _ _ _).mono ?_; rintro e w' ⟨rfl, rfl⟩)
        go_round
        case rel => exact ⟨k + 1, by omega, by go_num, hc'⟩
        case measure => simp [intOf]; omega
      · have h0b : (cmpI x y != 0) = true := by simp [h0]
        have hc' : Hid (cmpL xs ys = cmpI x y) := hc.out.trans (hd.out.trans (if_neg h0))
        clear h0 hd
        go_wp2_with (go_at_call 30; refine (compare1_c _ _ _).mono ?_; rintro e w' ⟨rfl, rfl⟩)
        go_ret
        exact ⟨ret_int hc'.out.symm, rfl⟩
    · have hc' : Hid (cmpL xs ys = 0) := hc.out.trans (by rw [List.drop_eq_nil_of_le (by omega)]; rfl)
      go_wp2_with fail
      go_ret
      exact ⟨ret_int hc'.out.symm, rfl⟩

def Kn.pl (k : Kn) : List Int := [k.d, k.o, k.n, k.i]
theorem pl_new (w w' : World) (b : Nat) (k : Kn) (t : TypeId) (fr : Nat × Nat) (h : w.heap[b]? = some (.cells #[.int .i64 k.d, .int .i64 k.o, .int .i64 k.n, .int .i64 k.i] t fr)) (hb : w'.heap[b]? = w.heap[b]?) : Ints w' b 0 k.pl := by
  intro j hj
  rw [← hb] at h
  rw [Nat.zero_add, cell_of_row w' b j _ t fr h]
  have hj' : j < 4 := hj
  rcases j with _ | _ | _ | _ | j
  · rfl
  · rfl
  · rfl
  · rfl
  · omega

end Go.Proofs.Ytfemjcbhgfhbjaa
