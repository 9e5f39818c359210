/-
  Slices of acts; Same of the reference, has of the laws.
-/
import Derived.Test.YtfemjcbhgfhbjaaEq
namespace Go.Proofs.Ytfemjcbhgfhbjaa
open Go.RowKit

/-- The acts ks lie in the slice at ao. -/
def KSl (w : World) (ao : Option Addr) (ks : List Kn) : Prop := ∀ i k, ks[i]? = some k → ∃ b off, ao = some ⟨b, off, none⟩ ∧ KAt w b (off + i * 49) k
theorem KSl.ext {w w' : World} {ao : Option Addr} {ks : List Kn} (h : KSl w ao ks) (hx : Ext w w') : KSl w' ao ks := by
  intro i k hk
  obtain ⟨b, off, e, ha⟩ := h i k hk
  exact ⟨b, off, e, ha.ext hx⟩
def sameK : List Kn → List Kn → Bool
  | [], [] => true
  | a :: xs, b :: ys => a.eqv b && sameK xs ys
  | _, _ => false
theorem sameK_len : ∀ {xs ys : List Kn}, sameK xs ys = true → xs.length = ys.length
  | [], [], _ => rfl
  | _ :: xs, _ :: ys, h => by
    simp only [sameK, Bool.and_eq_true] at h
    simp [sameK_len h.2]
  | [], _ :: _, h => by cases h
  | _ :: _, [], h => by cases h
theorem sameK_drop {xs ys : List Kn} {k : Nat} {x y : Kn} (hx : xs[k]? = some x) (hy : ys[k]? = some y) : sameK (xs.drop k) (ys.drop k) = (x.eqv y && sameK (xs.drop (k + 1)) (ys.drop (k + 1))) := by
  obtain ⟨h1, e1⟩ := List.getElem?_eq_some_iff.1 hx
  obtain ⟨h2, e2⟩ := List.getElem?_eq_some_iff.1 hy
  rw [List.drop_eq_getElem_cons h1, List.drop_eq_getElem_cons h2, e1, e2]
  rfl

set_option maxHeartbeats 1000000 in
theorem same_c (ao bo : Option Addr) (xs ys : List Kn) (c1 c2 : Nat) (w : World) (ha : KSl w ao xs) (hb : KSl w bo ys) (hm : xs.length ≤ 1000000) :
    Calls Try.prog 13 #[.slice ao xs.length c1, .slice bo ys.length c2] w fun e w' => e = .returned (.bool (sameK xs ys)) ∧ Ext w w' := by
  have HA := Lib.hid ha
  have HB := Lib.hid hb
  clear ha hb
  by_cases hl : xs.length = ys.length
  · have HL := Lib.hid hl
    rw [← hl]
    clear hl
    go_enter Try.func13, Try.ntmps13
    go_wp2_with fail
    go_loopw [5] (fun i wr => ∃ k : Nat, k ≤ xs.length ∧ i = .int .i64 k ∧ Hid (sameK xs ys = sameK (xs.drop k) (ys.drop k)) ∧ Hid (Ext w wr)) (fun i _ => xs.length - (intOf i).toNat)
    case atStart => exact ⟨0, Nat.zero_le _, rfl, rfl, Ext.refl _⟩
    case round =>
      obtain ⟨k, hk, rfl, hs, hx⟩ := hrel
      by_cases hlt : k < xs.length
      · obtain ⟨x, hxk⟩ : ∃ x, xs[k]? = some x := ⟨_, List.getElem?_eq_getElem hlt⟩
        obtain ⟨y, hyk⟩ : ∃ y, ys[k]? = some y := ⟨_, List.getElem?_eq_getElem (by rw [← HL.out]; exact hlt)⟩
        obtain ⟨b, off, rfl, hxa⟩ := HA.out k x hxk
        obtain ⟨b2, off2, rfl, hya⟩ := HB.out k y hyk
        have hd := Lib.hid (hs.out.trans (sameK_drop hxk hyk))
        have f1 := (hxa.ext hx.out).has
        have f2 := (hxa.ext hx.out).eq
        have f3 := (hya.ext hx.out).has
        have f4 := (hya.ext hx.out).eq
        clear hxk hyk hxa hya
        have i1 : (0 : Int) ≤ (k : Int) := by omega
        have i2 : (k : Int) < (xs.length : Int) := by omega
        cases he : x.eqv y with
        | true =>
          go_wp2_with fail
          refine wp_region_more (by kernel_rfl) (by kernel_rfl) ?_
          repeat (go_big_quiet_step ((go_at_call 12; exact quiet_ext (equal_c x y _))))
          refine wpQuiet_nil ?_
          rintro _ ⟨nq, rfl⟩
          go_wp2_with fail
          go_roundw
          case rel => exact ⟨k + 1, by omega, by go_num, hd.out.trans (by rw [he]; rfl), hx.out.trans (more_ext _ _)⟩
          case measure => simp [intOf]; omega
        | false =>
          go_wp2_with fail
          refine wp_region_more (by kernel_rfl) (by kernel_rfl) ?_
          repeat (go_big_quiet_step ((go_at_call 12; exact quiet_ext (equal_c x y _))))
          refine wpQuiet_nil ?_
          rintro _ ⟨nq, rfl⟩
          go_wp2_with fail
          go_ret
          exact ⟨ret_bool (hd.out.trans (by rw [he]; rfl)).symm, hx.out.trans (more_ext _ _)⟩
      · go_wp2_with fail
        go_ret
        exact ⟨ret_bool (hs.out.trans (by rw [List.drop_eq_nil_of_le (by omega), List.drop_eq_nil_of_le (by rw [← HL.out]; omega)]; rfl)).symm, hx.out⟩
  · have hl' : ((xs.length : Int) != (ys.length : Int)) = true := by simp; omega
    have hr : Hid (sameK xs ys = false) := by
      cases h : sameK xs ys with
      | false => rfl
      | true => exact absurd (sameK_len h) hl
    clear hl
    go_enter Try.func13, Try.ntmps13
    go_wp2_with fail
    go_ret
    exact ⟨ret_bool hr.out.symm, Ext.refl _⟩
end Go.Proofs.Ytfemjcbhgfhbjaa
