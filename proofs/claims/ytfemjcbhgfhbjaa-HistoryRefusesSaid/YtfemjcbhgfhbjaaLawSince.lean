/-
  HistorySince returns true, for every acts and Id.
-/
import Derived.Test.YtfemjcbhgfhbjaaOpen
namespace Go.Proofs.Ytfemjcbhgfhbjaa
open Go.ChangeShapes Go.WideShapes Go.ChangeAt Go.RowKit
open Go.ChangeMaps (open_string shut_string)

theorem mem_atK {ks : List Kn} (hs : ks.Pairwise Lt) {x : Kn} {n : Int} : x ∈ atK ks n ↔ x ∈ ks ∧ x.d ≤ n := by
  induction ks with
  | nil => simp [atK]
  | cons y ks ih =>
    rw [List.pairwise_cons] at hs
    have ih := ih hs.2
    unfold atK at ih ⊢
    rw [List.takeWhile_cons]
    by_cases hy : y.d ≤ n
    · simp only [hy, decide_true, if_true, List.mem_cons, ih]
      constructor
      · rintro (rfl | h)
        · exact ⟨.inl rfl, hy⟩
        · exact ⟨.inr h.1, h.2⟩
      · rintro ⟨rfl | h, h2⟩
        · exact .inl rfl
        · exact .inr ⟨h, h2⟩
    · simp only [hy, decide_false, Bool.false_eq_true, if_false, List.not_mem_nil, List.mem_cons, false_iff]
      rintro ⟨rfl | h, h2⟩
      · exact hy h2
      · have := hs.1 x h
        rw [Lt_iff] at this
        omega
theorem since_none {ks : List Kn} {id : ByteArray} (h : (sinceK ks id).2 = false) : sinceK ks id = (0, false) ∧ ks.any (hasId id) = false := by
  unfold sinceK at h ⊢
  cases hf : ks.find? (hasId id) with
  | none =>
    refine ⟨rfl, ?_⟩
    rw [List.find?_eq_none] at hf
    rw [List.any_eq_false]
    exact hf
  | some k => rw [hf] at h; cases h
theorem since_some {ks : List Kn} {id : ByteArray} (h : (sinceK ks id).2 = true) : ∃ x ∈ ks, hasId id x = true ∧ sinceK ks id = (x.d, true) ∧ ∀ y ∈ ks, hasId id y = true → ks.Pairwise Lt → x.d ≤ y.d := by
  unfold sinceK at h ⊢
  cases hf : ks.find? (hasId id) with
  | none => rw [hf] at h; cases h
  | some x =>
    obtain ⟨h1, l1, l2, rfl, h2⟩ := List.find?_eq_some_iff_append.1 hf
    refine ⟨x, by simp, h1, rfl, ?_⟩
    intro y hy hyi hs
    rw [List.pairwise_append, List.pairwise_cons] at hs
    rcases List.mem_append.1 hy with hy | hy
    · have := h2 y hy
      rw [hyi] at this
      cases this
    · rcases List.mem_cons.1 hy with rfl | hy
      · exact Int.le_refl _
      · have := hs.2.1.1 y hy
        rw [Lt_iff] at this
        omega
theorem atK_sub {ks : List Kn} {n : Int} : (atK ks n).Sublist ks := List.takeWhile_sublist _
theorem atK_sorted {ks : List Kn} (hs : ks.Pairwise Lt) (n : Int) : (atK ks n).Pairwise Lt := hs.sublist atK_sub
theorem valid_d {k : Kn} (h : k.valid = true) : 0 ≤ k.d ∧ k.d ≤ 1000000 := by
  simp only [Kn.valid, validB, Bool.and_eq_true, decide_eq_true_eq] at h
  omega
theorem since_law {ks : List Kn} (hs : ks.Pairwise Lt) (hv : ∀ k ∈ ks, k.valid = true) {id : ByteArray} (h : (sinceK (atK ks 1000000) id).2 = true) :
    ∃ d, sinceK (atK ks 1000000) id = (d, true) ∧ (atK ks d).any (hasId id) = true ∧ (atK ks (d - 1)).any (hasId id) = false ∧ 0 ≤ d ∧ d ≤ 1000000 := by
  obtain ⟨x, hx, hi, he, hmin⟩ := since_some h
  have hxk := (mem_atK hs).1 hx
  refine ⟨x.d, he, ?_, ?_, valid_d (hv x hxk.1)⟩
  · rw [List.any_eq_true]
    exact ⟨x, (mem_atK hs).2 ⟨hxk.1, Int.le_refl _⟩, hi⟩
  · rw [List.any_eq_false]
    intro y hy hyi
    have hyk := (mem_atK hs).1 hy
    have := hmin y ((mem_atK hs).2 ⟨hyk.1, by have := hxk.2; omega⟩) hyi (atK_sorted hs _)
    omega

def BoolTrue (w : World) (e : Ending) (w' : World) : Prop := e = .returned (.bool true) ∧ Ext w w'

set_option maxRecDepth 100000 in
set_option maxHeartbeats 1000000 in
theorem law_big6 (ao : Option Addr) (n c : Nat) (id : ByteArray) (w : World) (hn : 60 < n) (hm : n ≤ 9223372036854775807) : Calls Try.prog 6 #[.slice ao n c, .string id] w (BoolTrue w) := by
  go_enter Try.func6, Try.ntmps6
  go_wp2_with (go_at_call 8; refine (head_c _).mono ?_; rintro e w1 ⟨rfl, hx⟩)
  go_ret
  exact ⟨rfl, hx⟩

theorem run_small (ls : List Kn) (hl : ls.length ≤ 60) : (runK ([], []) ls).1.1.length ≤ 60 := by
  have := runK_size ls ([], [])
  simp at this
  omega
theorem run_sorted (ls : List Kn) : (runK ([], []) ls).1.1.Pairwise Lt := (runK_inv ls Inv.nil).sorted

set_option maxRecDepth 100000 in
set_option maxHeartbeats 1000000 in
theorem law6 (ao : Option Addr) (c : Nat) (ls : List Kn) (id : ByteArray) (w : World) (hl : KSl w ao ls) (hn : ls.length ≤ 60) : Calls Try.prog 6 #[.slice ao ls.length c, .string id] w (BoolTrue w) := by
  have HL := Lib.hid hl
  have hsz := run_small ls hn
  have hso := Lib.hid (run_sorted ls)
  have hva := Lib.hid ((runK_inv ls (s := ([], [])) Inv.nil).valid)
  have hadd := Lib.hid (fun w1 (h : KSl w1 ao ls) => added_c ao c ls w1 h (by omega))
  unfold AddedPost at hadd
  clear hl
  generalize (runK ([], []) ls).1.1 = ks at *
  have hat : Hid (∀ (hb : Nat) (n : Int) (w' : World), HistR w' hb ks → Calls Try.prog 10 #[.pointer (some ⟨hb, 0, none⟩), .int .i64 n] w' (AtPost (atK ks n) w')) := fun hb n w' h => at_c hb ks n w' h (by omega)
  have hhas : Hid (∀ (ao : Option Addr) (n : Int) (c : Nat) (w' : World), KSl w' ao (atK ks n) → Calls Try.prog 15 #[.slice ao (atK ks n).length c, .string id] w' fun e w'' => e = .returned (.bool ((atK ks n).any (hasId id))) ∧ w' = w'') := fun ao n c w' h =>
    has_c ao (atK ks n) c id w' h (by have := atK_sub (ks := ks) (n := n); have := this.length_le; omega)
  cases hok : (sinceK (atK ks 1000000) id).2 with
  | false =>
    obtain ⟨e1, e2⟩ := since_none hok
    have E1 := Lib.hid e1
    have E2 := Lib.hid e2
    clear hok e1 e2
    have hsi : Hid (∀ (hb : Nat) (w' : World), HistR w' hb ks → Calls Try.prog 14 #[.pointer (some ⟨hb, 0, none⟩), .string id] w' fun e w'' => e = .returned (.tuple #[.int .i64 0, .bool false]) ∧ Ext w' w'') := fun hb w' h => by
      have := since_c hb ks id w' h (by omega)
      rw [E1.out] at this
      exact this
    go_enter Try.func6, Try.ntmps6
    go_wp2_with (first
      | (go_at_call 8; refine (head_c _).mono ?_; rintro e w1 ⟨rfl, hx1⟩)
      | (go_at_call 9; refine (hadd.out _ (HL.out.ext hx1)).mono ?_; rintro e w2 ⟨hb, eo, ec, rfl, hh, _, hx2, _⟩; have HH := Lib.hid hh.read; have HX := Lib.hid (hx1.trans hx2); clear hh hx1 hx2)
      | (go_at_call 14; refine (hsi.out hb _ HH.out).mono ?_; rintro e w3 ⟨rfl, hx3⟩; have HH3 := Lib.hid (HH.out.ext hx3); have HX3 := Lib.hid (HX.out.trans hx3); clear hx3)
      | (go_at_call 10; refine (hat.out hb _ _ HH3.out).mono ?_; rintro e w4 ⟨ka, kc, rfl, hk4, hx4, _⟩; have HK4 := Lib.hid hk4; have HX4 := Lib.hid (HX3.out.trans hx4); clear hk4 hx4)
      | (go_at_call 15; refine (hhas.out _ _ _ _ HK4.out).mono ?_; rw [E2.out]; rintro e w5 ⟨rfl, rfl⟩))
    go_ret
    exact ⟨rfl, HX4.out⟩
  | true =>
    obtain ⟨d, e1, e2, e3, hd0, hd1⟩ := since_law hso.out hva.out hok
    have E1 := Lib.hid e1
    have E2 := Lib.hid e2
    have E3 := Lib.hid e3
    clear hok e1 e2 e3
    have hsi : Hid (∀ (hb : Nat) (w' : World), HistR w' hb ks → Calls Try.prog 14 #[.pointer (some ⟨hb, 0, none⟩), .string id] w' fun e w'' => e = .returned (.tuple #[.int .i64 d, .bool true]) ∧ Ext w' w'') := fun hb w' h => by
      have := since_c hb ks id w' h (by omega)
      rw [E1.out] at this
      exact this
    have hhas2 : Hid (∀ (ao : Option Addr) (c : Nat) (w' : World), KSl w' ao (atK ks d) → Calls Try.prog 15 #[.slice ao (atK ks d).length c, .string id] w' fun e w'' => e = .returned (.bool true) ∧ w' = w'') := fun ao c w' h => by
      have := hhas.out ao d c w' h
      rw [E2.out] at this
      exact this
    have hhas3 : Hid (∀ (ao : Option Addr) (c : Nat) (w' : World), KSl w' ao (atK ks (d - 1)) → Calls Try.prog 15 #[.slice ao (atK ks (d - 1)).length c, .string id] w' fun e w'' => e = .returned (.bool false) ∧ w' = w'') := fun ao c w' h => by
      have := hhas.out ao (d - 1) c w' h
      rw [E3.out] at this
      exact this
    go_enter Try.func6, Try.ntmps6
    go_wp2_with (first
      | (go_at_call 8; refine (head_c _).mono ?_; rintro e w1 ⟨rfl, hx1⟩)
      | (go_at_call 9; refine (hadd.out _ (HL.out.ext hx1)).mono ?_; rintro e w2 ⟨hb, eo, ec, rfl, hh, _, hx2, _⟩; have HH := Lib.hid hh.read; have HX := Lib.hid (hx1.trans hx2); clear hh hx1 hx2)
      | (go_at_call 14; refine (hsi.out hb _ HH.out).mono ?_; rintro e w3 ⟨rfl, hx3⟩; have HH3 := Lib.hid (HH.out.ext hx3); have HX3 := Lib.hid (HX.out.trans hx3); clear hx3)
      | (go_at_call_of 10 (Value.int .i64 d); refine (hat.out hb d _ HH3.out).mono ?_; rintro e w4 ⟨ka, kc, rfl, hk4, hx4, _⟩; have HK4 := Lib.hid hk4; have HX4 := Lib.hid (HX3.out.trans hx4); have HH4 := Lib.hid (HH3.out.ext hx4); clear hk4 hx4)
      | (go_at_call 10; refine (hat.out hb (d - 1) _ HH4.out).mono ?_; rintro e w6 ⟨kd, kf, rfl, hk6, hx6, _⟩; have HK6 := Lib.hid hk6; have HX6 := Lib.hid (HX4.out.trans hx6); clear hk6 hx6)
      | (go_at_call 15; refine (hhas3.out _ _ _ HK6.out).mono ?_; rintro e w7 ⟨rfl, rfl⟩)
      | (go_at_call 15; refine (hhas2.out _ _ _ HK4.out).mono ?_; rintro e w5 ⟨rfl, rfl⟩))
    go_ret
    exact ⟨rfl, HX6.out⟩

theorem own : ownKnob Try.prog.godebug = none := by kernel_rfl

set_option maxRecDepth 100000 in
theorem lifted6 (os : Os) (started : os.Started) (H : Type) (enc : TypeId × Value → H) :
    ReturnsInHanded {} Try.checked os 6 .any (Rows.historySinceSpec.pre6 enc Try.prog Try.f6 Rows.historySinceRow.domain false) (Rows.historySinceSpec.post enc Try.prog Try.f6 false true false false) := by
  refine returnsInHanded_of_change (C := Try.checked) own started (by kernel_rfl) Try.func6
    (ChangeSpec.witness6 (enc := enc) (C := Try.checked) false ⟨#[], #[.slice none 0 0, .string ⟨#[]⟩], []⟩ 8 (by kernel_rfl) (by kernel_rfl) (by kernel_rfl) (by kernel_rfl)) ?_
  intro W base args ds gs before hval0 hW hcnd _
  have hval : ∀ (j : Nat) t v, Try.f6.params[j]? = some t → args[j]? = some v → Value.okWide Try.prog W .any base t v := hval0
  have hW' := hW
  obtain ⟨p, q, hA0, hV, rfl, hfz, hnd⟩ := hW
  have hA : DataW.TrodAll enc Try.prog W 0 (fun _ => true) true Try.f6.params.toList args.toList ds p := hA0
  rw [Try.params6] at hA hval
  obtain ⟨v0, vs0, d0, ds0, p0, q0, hargs, rfl, rfl, h0, r0⟩ := trodAll_cons hA
  obtain ⟨v1, vs1, d1, ds1, p1, q1, rfl, rfl, rfl, h1, r1⟩ := trodAll_cons r0
  obtain ⟨rfl, rfl, rfl⟩ := trodAll_nil r1
  obtain rfl : args = #[v0, v1] := by cases args; simp_all
  obtain ⟨rfl, rfl⟩ := trodVars_none hV
  obtain ⟨a0, len0, cap0, rfl⟩ := okWide_slice Try.underlying22 (hval 0 22 v0 rfl rfl)
  have k0 := h0
  have lt0 : ∀ x ∈ p0, x.block < W.heap.size := by obtain ⟨m, hm⟩ := k0; exact DataW.trod_lt m _ _ _ hm
  obtain ⟨ls, hlen, hks⟩ : ∃ ks : List Kn, ks.length = len0 ∧ KSl W a0 ks := by
    obtain ⟨fuel, hf⟩ := h0
    exact open_ks hf
  have hmax : len0 ≤ 9223372036854775807 := by
    obtain ⟨fuel, hf⟩ := h0
    rcases Deep.open_slice Try.underlying22 hf with ⟨hcs, _⟩ | ⟨a, l, c, m, n, D, Pl, hcs, _, hlc, hcm, _⟩
    · simp [Value.cells] at hcs
      omega
    · simp [Value.cells] at hcs
      unfold maxLen at hcm
      omega
  subst hlen
  obtain ⟨s1, rfl, rfl, rfl, w1⟩ := open_string Try.underlying9 (hval 1 9 v1 rfl rfl) h1
  clear hA0 hval0
  have hcall : Calls Try.prog 6 #[.slice a0 ls.length cap0, .string s1] W (BoolTrue W) := by
    by_cases hb : ls.length ≤ 60
    · exact law6 a0 cap0 ls s1 W hks hb
    · exact law_big6 a0 ls.length cap0 s1 W (by omega) hmax
  refine hcall.mono fun e W' ⟨he, bel⟩ => ?_
  subst he
  exact ⟨_, rfl, _, _, _, [], _, [], hW', trodAll_mk1 (shut_bool Try.underlying4 _), (trodAll_cons_mk (Below.trod laidOut (by kernel_rfl) (of_decide_eq_true (by kernel_rfl)) k0 bel lt0) (trodAll_cons_mk (shut_string Try.underlying9 w1) trodAll_mk0)), rfl, bel.frame _, fun h => by cases h⟩

theorem over6 : Rows.historySinceRow.holds Try.pinned (OpenSpec.ofChange Rows.historySinceSpec) :=
  OpenClaim.holds_of_wide 6 Try.f6 rfl rfl rfl rfl rfl rfl rfl ⟨rfl, rfl, rfl, rfl, rfl⟩ rfl rfl rfl rfl rfl (by kernel_rfl) Try.func6 (by kernel_rfl)
    (of_decide_eq_true (by kernel_rfl)) (by unfold Func.isWrapper; first | (rw [if_pos (by decide +kernel)]; kernel_rfl) | (rw [if_neg (by decide +kernel)]; exact ⟨rfl, rfl⟩))
    (fun os started H enc _ => lifted6 os started H enc)

/-- For every acts and Id, HistorySince returns true. -/
theorem historySince_holds : Rows.HistorySinceSaid := over6
#print axioms historySince_holds
end Go.Proofs.Ytfemjcbhgfhbjaa
