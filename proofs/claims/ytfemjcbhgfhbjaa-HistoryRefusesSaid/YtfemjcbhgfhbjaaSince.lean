/-
  Since, has, and At of no history.
-/
import Derived.Test.YtfemjcbhgfhbjaaAt
namespace Go.Proofs.Ytfemjcbhgfhbjaa
open Go.RowKit

set_option maxHeartbeats 400000 in
theorem at_nil (known : Int) (w : World) : Calls Try.prog 10 #[.pointer none, .int .i64 known] w fun e w' => e = .returned (.slice none 0 0) ∧ w = w' := by
  go_enter Try.func10, Try.ntmps10
  go_wp2_with fail
  go_ret
  exact ⟨rfl, rfl⟩

def hasId (id : ByteArray) (k : Kn) : Bool := decide (k.id.toList = id.toList)
theorem any_step {id : ByteArray} {ks : List Kn} {k : Nat} {x : Kn} (hx : ks[k]? = some x) : (ks.drop k).any (hasId id) = (hasId id x || (ks.drop (k + 1)).any (hasId id)) := by
  obtain ⟨h1, e1⟩ := List.getElem?_eq_some_iff.1 hx
  rw [List.drop_eq_getElem_cons h1, e1, List.any_cons]

set_option maxRecDepth 100000 in
set_option maxHeartbeats 1000000 in
theorem has_c (ao : Option Addr) (ks : List Kn) (c : Nat) (id : ByteArray) (w : World) (ha : KSl w ao ks) (hm : ks.length ≤ 1000000) :
    Calls Try.prog 15 #[.slice ao ks.length c, .string id] w fun e w' => e = .returned (.bool (ks.any (hasId id))) ∧ w = w' := by
  have HA := Lib.hid ha
  clear ha
  go_enter Try.func15, Try.ntmps15
  go_wp2_with fail
  go_loop [5] (fun i => ∃ k : Nat, k ≤ ks.length ∧ i = .int .i64 k ∧ Hid (ks.any (hasId id) = (ks.drop k).any (hasId id))) (fun i => ks.length - (intOf i).toNat)
  case atStart => exact ⟨0, Nat.zero_le _, rfl, rfl⟩
  case round =>
    obtain ⟨k, hk, rfl, hs⟩ := hrel
    by_cases hlt : k < ks.length
    · obtain ⟨x, hxk⟩ : ∃ x, ks[k]? = some x := ⟨_, List.getElem?_eq_getElem hlt⟩
      obtain ⟨b, off, rfl, hxa⟩ := HA.out k x hxk
      have f5 := hxa.cell.2.2.2.2.2.1
      have hd := Lib.hid (hs.out.trans (any_step hxk))
      have i1 : (0 : Int) ≤ (k : Int) := by omega
      have i2 : (k : Int) < (ks.length : Int) := by omega
      clear hxk hxa
      by_cases he : x.id.toList = id.toList
      · have hr := Lib.hid (show ks.any (hasId id) = true by rw [hd.out, hasId, decide_eq_true he]; rfl)
        have heb : (x.id.toList == id.toList) = true := by simp [he]
        clear he
        go_wp2_with fail
        go_ret
        exact ⟨ret_bool hr.out.symm, rfl⟩
      · have hr : Hid (ks.any (hasId id) = (ks.drop (k + 1)).any (hasId id)) := by
          have := hd.out
          rw [hasId, decide_eq_false he] at this
          exact this
        have heb : (x.id.toList == id.toList) = false := by simp [he]
        clear he
        go_wp2_with fail
        go_round
        case rel => exact ⟨k + 1, by omega, by go_num, hr⟩
        case measure => simp [intOf]; omega
    · have hr : Hid (ks.any (hasId id) = false) := by
        have := hs.out
        rw [List.drop_eq_nil_of_le (by omega)] at this
        exact this
      go_wp2_with fail
      go_ret
      exact ⟨ret_bool hr.out.symm, rfl⟩

def sinceK (ks : List Kn) (id : ByteArray) : Int × Bool := match ks.find? (hasId id) with | some k => (k.d, true) | none => (0, false)
theorem find_step {id : ByteArray} {ks : List Kn} {k : Nat} {x : Kn} (hx : ks[k]? = some x) : sinceK (ks.drop k) id = if x.id.toList = id.toList then (x.d, true) else sinceK (ks.drop (k + 1)) id := by
  obtain ⟨h1, e1⟩ := List.getElem?_eq_some_iff.1 hx
  unfold sinceK
  rw [List.drop_eq_getElem_cons h1, e1, List.find?_cons]
  by_cases h : x.id.toList = id.toList <;> simp [hasId, h]

set_option maxRecDepth 100000 in
set_option maxHeartbeats 1000000 in
theorem since_c (hb : Nat) (ks : List Kn) (id : ByteArray) (w : World) (hh : HistR w hb ks) (hm : ks.length ≤ 100000) :
    Calls Try.prog 14 #[.pointer (some ⟨hb, 0, none⟩), .string id] w fun e w' => e = .returned (.tuple #[.int .i64 (sinceK (atK ks 1000000) id).1, .bool (sinceK (atK ks 1000000) id).2]) ∧ Ext w w' := by
  have hat := Lib.hid (at_c hb ks 1000000 w hh hm)
  have hlen : (atK ks 1000000).length ≤ 100000 := by
    have : (atK ks 1000000).length ≤ ks.length := List.Sublist.length_le (List.takeWhile_sublist _)
    omega
  clear hh hm
  generalize atK ks 1000000 = ls at *
  go_enter Try.func14, Try.ntmps14
  go_wp2_with (go_at_call 10; refine hat.out.mono ?_; rintro e w' ⟨ao, c, rfl, hk, hx, _⟩)
  have HK := Lib.hid hk
  have HX := Lib.hid hx
  clear hk hx
  go_loopw [11] (fun i wr => ∃ k : Nat, k ≤ ls.length ∧ i = .int .i64 k ∧ Hid (sinceK ls id = sinceK (ls.drop k) id) ∧ Hid (Ext w' wr)) (fun i _ => ls.length - (intOf i).toNat)
  case atStart => exact ⟨0, Nat.zero_le _, rfl, rfl, Ext.refl _⟩
  case round =>
    obtain ⟨k, hk, rfl, hs, hx⟩ := hrel
    by_cases hlt : k < ls.length
    · obtain ⟨x, hxk⟩ : ∃ x, ls[k]? = some x := ⟨_, List.getElem?_eq_getElem hlt⟩
      obtain ⟨b, off, rfl, hxa⟩ := HK.out k x hxk
      have f1 := (hxa.ext hx.out).has
      have f2 := (hxa.ext hx.out).eq
      have hd := Lib.hid (hs.out.trans (find_step hxk))
      have i1 : (0 : Int) ≤ (k : Int) := by omega
      have i2 : (k : Int) < (ls.length : Int) := by omega
      clear hxk hxa
      by_cases he : x.id.toList = id.toList
      · have hr := Lib.hid (hd.out.trans (if_pos he))
        have heb : (x.id.toList == id.toList) = true := by simp [he]
        clear he
        go_wp2_with fail
        go_ret2
        exact ⟨by rw [hr.out]; rfl, HX.out.trans (hx.out.alloc _)⟩
      · have hr := Lib.hid (hd.out.trans (if_neg he))
        have heb : (x.id.toList == id.toList) = false := by simp [he]
        clear he
        go_wp2_with fail
        go_roundw
        case rel => exact ⟨k + 1, by omega, by go_num, hr.out, hx.out.alloc _⟩
        case measure => simp [intOf]; omega
    · have hr := Lib.hid (show sinceK ls id = (0, false) by rw [hs.out, List.drop_eq_nil_of_le (by omega)]; rfl)
      go_wp2_with fail
      go_ret2
      exact ⟨by rw [hr.out]; rfl, HX.out.trans hx.out⟩
end Go.Proofs.Ytfemjcbhgfhbjaa
