/-
  HistoryOrders returns true, for every acts and day.
-/
import Derived.Test.YtfemjcbhgfhbjaaLaterP
namespace Go.Proofs.Ytfemjcbhgfhbjaa
open Go.ChangeShapes Go.WideShapes Go.ChangeAt Go.RowKit

set_option maxRecDepth 100000 in
set_option maxHeartbeats 1000000 in
theorem law_big3 (ao : Option Addr) (n c : Nat) (known : Int) (w : World) (hn : 60 < n) (hm : n ≤ 9223372036854775807) : Calls Try.prog 3 #[.slice ao n c, .int .i64 known] w (BoolTrue w) := by
  go_enter Try.func3, Try.ntmps3
  go_wp2_with (go_at_call 8; refine (head_c _).mono ?_; rintro e w1 ⟨rfl, hx⟩)
  go_ret
  exact ⟨rfl, hx⟩

/-- An act of the list, without an error, of a day up to the day, is known. -/
theorem known_mem {ls : List Kn} {k : Nat} {x : Kn} {known : Int} (hx : ls[k]? = some x) (he : (runK ([], []) ls).2[k]? = some 0) (hd : x.d ≤ known) : x ∈ atK (runK ([], []) ls).1.1 known := by
  rw [mem_atK (run_sorted ls), run_mem]
  refine ⟨.inr ?_, hd⟩
  unfold okOf
  rw [List.mem_map]
  refine ⟨(x, 0), List.mem_filter.2 ⟨?_, rfl⟩, rfl⟩
  have hz : (ls.zip (runK ([], []) ls).2)[k]? = some (x, 0) := by rw [List.getElem?_zip_eq_some]; exact ⟨hx, he⟩
  exact List.mem_of_getElem? hz
theorem orders_count (ls : List Kn) (known : Int) : (onlyK ls (runK ([], []) ls).2 known ls.length).length = (atK (runK ([], []) ls).1.1 known).length := by
  rw [only_all ls _ known (runK_len ls _), atK_filter (run_sorted ls), run_count]
  simp
theorem anyq_step {l : List Kn} {j : Nat} {x y : Kn} (hy : l[j]? = some y) : (l.take (j + 1)).any (fun z => z.eqv x) = ((l.take j).any (fun z => z.eqv x) || y.eqv x) := by
  rw [take_snoc hy, List.any_append]
  simp
theorem any_mem {l : List Kn} {x : Kn} (h : x ∈ l) : l.any (fun z => z.eqv x) = true := List.any_eq_true.2 ⟨x, h, eqv_refl x⟩

set_option maxRecDepth 100000 in
set_option maxHeartbeats 4000000 in
theorem law3 (ao : Option Addr) (c : Nat) (ls : List Kn) (known : Int) (w : World) (hl : KSl w ao ls) (hn : ls.length ≤ 60) : Calls Try.prog 3 #[.slice ao ls.length c, .int .i64 known] w (BoolTrue w) := by
  have HL := Lib.hid hl
  have hsz := run_small ls hn
  have hadd := Lib.hid (fun w1 (h : KSl w1 ao ls) => added_c ao c ls w1 h (by omega))
  have hlen := Lib.hid (runK_len ls ([], []))
  have hcnt := Lib.hid (orders_count ls known)
  have hmem : Hid (∀ (k : Nat) (x : Kn), ls[k]? = some x → (runK ([], []) ls).2[k]? = some 0 → x.d ≤ known → x ∈ atK (runK ([], []) ls).1.1 known) := fun k x h1 h2 h3 => known_mem h1 h2 h3
  have hday : Hid (∀ (j : Nat) (y : Kn), (atK (runK ([], []) ls).1.1 known)[j]? = some y → y.d ≤ known) := fun j y hy => ((mem_atK (run_sorted ls)).1 (List.mem_of_getElem? hy)).2
  have hord : Hid (∀ (j : Nat) (y z : Kn), (atK (runK ([], []) ls).1.1 known)[j]? = some y → (atK (runK ([], []) ls).1.1 known)[j + 1]? = some z → cmpL y.pl z.pl = -1) := fun j y z hy hz => by
    have hp := atK_sorted (run_sorted ls) known
    rw [List.pairwise_iff_getElem] at hp
    obtain ⟨h1, e1⟩ := List.getElem?_eq_some_iff.1 hy
    obtain ⟨h2, e2⟩ := List.getElem?_eq_some_iff.1 hz
    have := hp j (j + 1) h1 h2 (by omega)
    rw [e1, e2] at this
    exact this.minus
  unfold AddedPost at hadd
  clear hl
  generalize (runK ([], []) ls).1.1 = ks at *
  generalize (runK ([], []) ls).1.2 = us at *
  generalize (runK ([], []) ls).2 = es at *
  have hat : Hid (∀ (hb : Nat) (w' : World), HistR w' hb ks → Calls Try.prog 10 #[.pointer (some ⟨hb, 0, none⟩), .int .i64 known] w' (AtPost (atK ks known) w')) := fun hb w' h => at_c hb ks known w' h (by omega)
  have hlm : (atK ks known).length ≤ 60 := by have := atK_sub (ks := ks) (n := known); have := this.length_le; omega
  unfold AtPost at hat
  generalize atK ks known = l at *
  go_enter Try.func3, Try.ntmps3
  go_wp2_with (first
    | (go_at_call 8; refine (head_c _).mono ?_; rintro e w1 ⟨rfl, hx1⟩)
    | (go_at_call 9; refine (hadd.out _ (HL.out.ext hx1)).mono ?_; rintro e w2 ⟨hb, eo, ec, rfl, hh, he, hx2, _⟩; have HH := Lib.hid hh.read; have HE := Lib.hid he; have HX := Lib.hid (hx1.trans hx2); clear hh he hx1 hx2)
    | (go_at_call 10; refine (hat.out hb _ HH.out).mono ?_; rintro e w3 ⟨ga, gc, rfl, hk3, hx3, _⟩; have HG := Lib.hid hk3; have HE3 := Lib.hid (HE.out.ext hx3); have HX3 := Lib.hid (HX.out.trans hx3); clear hk3 hx3))
  clear HH HE HX
  go_loopw [9] (fun i wr => ∃ k : Nat, k ≤ l.length ∧ i = .int .i64 k ∧ Hid (Ext w3 wr)) (fun i _ => l.length - (intOf i).toNat)
  case atStart => exact ⟨0, Nat.zero_le _, rfl, Ext.refl _⟩
  case round =>
    obtain ⟨k, hk, rfl, hx⟩ := hrel
    by_cases hlt : k < l.length
    · obtain ⟨x, hxk⟩ : ∃ x, l[k]? = some x := ⟨_, List.getElem?_eq_getElem hlt⟩
      have hdx := hday.out k x hxk
      obtain ⟨b, off, hga, hxa⟩ := HG.out k x hxk
      have f1 := (hxa.ext hx.out).has
      have f2 := (hxa.ext hx.out).eq
      have f3 := (hxa.ext hx.out).cell.1
      have d1 : decide (known < x.d) = false := by simp; omega
      have d2 : ¬ known < x.d := by omega
      have i1 : (0 : Int) ≤ (k : Int) := by omega
      have i2 : (k : Int) < (l.length : Int) := by omega
      by_cases hk0 : k = 0
      · subst hk0
        subst hga
        simp only [Nat.zero_mul, Nat.add_zero] at f1 f2 f3
        clear hxk hxa
        go_wp2_with fail
        refine wp_region_more (by kernel_rfl) (by kernel_rfl) ?_
        repeat (go_big_quiet_step (fail))
        refine wpQuiet_nil ?_
        rintro _ ⟨nq, rfl⟩
        go_wp2_with fail
        go_roundw
        case rel => exact ⟨1, by omega, by go_num, hx.out.trans (more_ext _ _)⟩
        case measure => simp [intOf]; omega
      · obtain ⟨j, rfl⟩ : ∃ j, k = j + 1 := ⟨k - 1, by omega⟩
        obtain ⟨y, hyk⟩ : ∃ y, l[j]? = some y := ⟨_, List.getElem?_eq_getElem (by omega)⟩
        have hcm := hord.out j y x hyk hxk
        obtain ⟨b', off', hga', hya⟩ := HG.out j y hyk
        rw [hga] at hga'
        cases hga'
        subst hga
        have g1 := (hya.ext hx.out).has
        have g2 := (hya.ext hx.out).eq
        have hcall : Hid (∀ w', Calls Try.prog 11 #[.pointer (some ⟨hb, 0, none⟩), .agg y.cs, .agg x.cs] w' fun e w'' => e = .returned (.int .i64 (-1)) ∧ Ext w' w'') := fun w' => by
          have := horder_c y x (some ⟨hb, 0, none⟩) w'
          rw [hcm] at this
          exact this
        have i3 : (0 : Int) < ((j + 1 : Nat) : Int) := by omega
        have i4 : decide ((0 : Int) < ((j + 1 : Nat) : Int)) = true := decide_eq_true i3
        clear hxk hxa hyk hya hcm
        go_wp2_with fail
        refine wp_region_more (by kernel_rfl) (by kernel_rfl) ?_
        repeat (go_big_quiet_step ((go_at_call 11; exact quiet_ext (hcall.out _))))
        refine wpQuiet_nil ?_
        rintro _ ⟨nq, rfl⟩
        go_wp2_with fail
        go_roundw
        case rel => exact ⟨j + 2, by omega, by go_num, hx.out.trans (more_ext _ _)⟩
        case measure => simp [intOf]; omega
    · clear hk
      obtain ⟨w4, rfl⟩ : ∃ wo : World, wo = wr := ⟨_, rfl⟩
      have HG4 := Lib.hid (HG.out.ext hx.out)
      have HE4 := Lib.hid (HE3.out.ext hx.out)
      have HX4 := Lib.hid (HX3.out.trans hx.out)
      clear HG HE3 HX3 hx
      have i0 : ¬ ((k : Int) < (l.length : Int)) := by omega
      go_wp2_with fail
      go_loopw [10, 11] (fun n i wr => ∃ k : Nat, k ≤ ls.length ∧ i = .int .i64 k ∧ n = .int .i64 ((onlyK ls es known k).length : Nat) ∧ Hid (Ext w4 wr)) (fun _ i _ => ls.length - (intOf i).toNat)
      case atStart => exact ⟨0, Nat.zero_le _, rfl, rfl, Ext.refl _⟩
      case round =>
        obtain ⟨k, hk, rfl, rfl, hx⟩ := hrel
        by_cases hlt : k < ls.length
        · obtain ⟨x, hxk⟩ : ∃ x, ls[k]? = some x := ⟨_, List.getElem?_eq_getElem hlt⟩
          obtain ⟨er, her⟩ : ∃ er, es[k]? = some er := ⟨_, List.getElem?_eq_getElem (by have := hlen.out; omega)⟩
          have hst := Lib.hid (only_step (m := known) hxk her)
          have hln := only_len ls es known k
          have hmk := Lib.hid (hmem.out k x hxk)
          obtain ⟨eb, rfl, hec⟩ := HE4.out k er her
          obtain ⟨b, off, rfl, hxa⟩ := HL.out k x hxk
          have hxw := HX4.out.trans hx.out
          have f0 : wr.cell? ⟨eb, k, none⟩ = some (.int .i64 er) := by rw [hx.out.cell (block_lt_of_cell hec)]; exact hec
          have f3 := (hxa.ext hxw).cell.1
          have HXA := Lib.hid (hxa.ext hxw)
          have i1 : (0 : Int) ≤ (k : Int) := by omega
          have i2 : (k : Int) < (ls.length : Int) := by omega
          clear hxk hxa hec hxw
          generalize hL' : onlyK ls es known (k + 1) = L' at hst
          have HL' := Lib.hid hL'
          clear hL'
          generalize onlyK ls es known k = L at *
          by_cases h0 : er = 0
          · subst h0
            by_cases hd : x.d ≤ known
            · have hst' : Hid (L'.length = L.length + 1) := by
                have := hst.out
                rw [if_pos ⟨rfl, hd⟩] at this
                rw [this, List.length_append]
                rfl
              have hany := Lib.hid (any_mem (hmk.out her hd))
              have d1 : decide (known < x.d) = false := by simp; omega
              have d2 : ¬ known < x.d := by omega
              clear hst hmk her
              obtain ⟨w5, rfl⟩ : ∃ wo : World, wo = wr := ⟨_, rfl⟩
              go_wp2_with fail
              go_loopw [12, 13] (fun fd i wr => ∃ j : Nat, j ≤ l.length ∧ i = .int .i64 j ∧ fd = .bool ((l.take j).any fun z => z.eqv x) ∧ Hid (Ext w5 wr)) (fun _ i _ => l.length - (intOf i).toNat)
              case atStart => exact ⟨0, Nat.zero_le _, rfl, rfl, Ext.refl _⟩
              case round =>
                obtain ⟨j, hj, rfl, rfl, hx5⟩ := hrel
                by_cases hjl : j < l.length
                · obtain ⟨y, hyj⟩ : ∃ y, l[j]? = some y := ⟨_, List.getElem?_eq_getElem hjl⟩
                  have hsy := Lib.hid (anyq_step (x := x) hyj)
                  obtain ⟨b2, off2, rfl, hya⟩ := HG4.out j y hyj
                  have hxx := hx.out.trans hx5.out
                  have g1 := (hya.ext hxx).has
                  have g2 := (hya.ext hxx).eq
                  have g3 := (HXA.out.ext hx5.out).has
                  have g4 := (HXA.out.ext hx5.out).eq
                  have j1 : (0 : Int) ≤ (j : Int) := by omega
                  have j2 : (j : Int) < (l.length : Int) := by omega
                  clear hyj hya hxx
                  generalize hq : (l.take j).any (fun z => z.eqv x) = q at *
                  clear hq
                  cases q with
                  | true =>
                    go_wp2_with fail
                    refine wp_region_more (by kernel_rfl) (by kernel_rfl) ?_
                    repeat (go_big_quiet_step (fail))
                    refine wpQuiet_nil ?_
                    rintro _ ⟨nq, rfl⟩
                    go_wp2_with fail
                    go_roundw
                    case rel => exact ⟨j + 1, by omega, by go_num, by rw [hsy.out]; rfl, hx5.out.trans (more_ext _ _)⟩
                    case measure => simp [intOf]; omega
                  | false =>
                    cases hey : y.eqv x with
                    | true =>
                      go_wp2_with fail
                      refine wp_region_more (by kernel_rfl) (by kernel_rfl) ?_
                      repeat (go_big_quiet_step ((go_at_call 12; exact quiet_ext (equal_c y x _))))
                      refine wpQuiet_nil ?_
                      rintro _ ⟨nq, rfl⟩
                      go_wp2_with fail
                      go_roundw
                      case rel => exact ⟨j + 1, by omega, by go_num, by rw [hsy.out, hey]; rfl, hx5.out.trans (more_ext _ _)⟩
                      case measure => simp [intOf]; omega
                    | false =>
                      go_wp2_with fail
                      refine wp_region_more (by kernel_rfl) (by kernel_rfl) ?_
                      repeat (go_big_quiet_step ((go_at_call 12; exact quiet_ext (equal_c y x _))))
                      refine wpQuiet_nil ?_
                      rintro _ ⟨nq, rfl⟩
                      go_wp2_with fail
                      go_roundw
                      case rel => exact ⟨j + 1, by omega, by go_num, by rw [hsy.out, hey]; rfl, hx5.out.trans (more_ext _ _)⟩
                      case measure => simp [intOf]; omega
                · have hjl' : j = l.length := by omega
                  subst hjl'
                  have hfe : (l.take l.length).any (fun z => z.eqv x) = true := by rw [List.take_length]; exact hany.out
                  rw [hfe]
                  clear hfe
                  go_wp2_with fail
                  go_roundw
                  case rel => exact ⟨k + 1, by omega, by go_num, by rw [HL'.out, hst'.out]; go_num, hx.out.trans hx5.out⟩
                  case measure => simp [intOf]; omega
            · have hst' : Hid (L' = L) := by
                have := hst.out
                rw [if_neg (fun h => hd h.2), List.append_nil] at this
                exact this
              have d1 : decide (known < x.d) = true := by simp; omega
              have d2 : known < x.d := by omega
              clear hst hmk her
              go_wp2_with fail
              go_roundw
              case rel => exact ⟨k + 1, by omega, by go_num, by rw [HL'.out, hst'.out], hx.out⟩
              case measure => simp [intOf]; omega
          · have hst' : Hid (L' = L) := by
              have := hst.out
              rw [if_neg (fun h => h0 h.1), List.append_nil] at this
              exact this
            have h0' : (er != 0) = true := by simp [h0]
            clear hst hmk her
            go_wp2_with fail
            go_roundw
            case rel => exact ⟨k + 1, by omega, by go_num, by rw [HL'.out, hst'.out], hx.out⟩
            case measure => simp [intOf]; omega
        · have hkl : k = ls.length := by omega
          subst hkl
          rw [hcnt.out]
          go_wp2_with fail
          go_ret
          exact ⟨rfl, HX4.out.trans hx.out⟩

set_option maxRecDepth 100000 in
theorem lifted3 (os : Os) (started : os.Started) (H : Type) (enc : TypeId × Value → H) :
    ReturnsInHanded {} Try.checked os 3 .any (Rows.historyOrdersSpec.pre6 enc Try.prog Try.f3 Rows.historyOrdersRow.domain false) (Rows.historyOrdersSpec.post enc Try.prog Try.f3 false true false false) := by
  refine returnsInHanded_of_change (C := Try.checked) own started (by kernel_rfl) Try.func3
    (ChangeSpec.witness6 (enc := enc) (C := Try.checked) false ⟨#[], #[.slice none 0 0, .int .i64 0], []⟩ 8 (by kernel_rfl) (by kernel_rfl) (by kernel_rfl) (by kernel_rfl)) ?_
  intro W base args ds gs before hval0 hW hcnd _
  have hval : ∀ (j : Nat) t v, Try.f3.params[j]? = some t → args[j]? = some v → Value.okWide Try.prog W .any base t v := hval0
  have hW' := hW
  obtain ⟨p, q, hA0, hV, rfl, hfz, hnd⟩ := hW
  have hA : DataW.TrodAll enc Try.prog W 0 (fun _ => true) true Try.f3.params.toList args.toList ds p := hA0
  rw [Try.params3] at hA hval
  obtain ⟨v0, vs0, d0, ds0, p0, q0, hargs, rfl, rfl, h0, r0⟩ := trodAll_cons hA
  obtain ⟨v1, vs1, d1, ds1, p1, q1, rfl, rfl, rfl, h1, r1⟩ := trodAll_cons r0
  obtain ⟨rfl, rfl, rfl⟩ := trodAll_nil r1
  obtain rfl : args = #[v0, v1] := by cases args; simp_all
  obtain ⟨rfl, rfl⟩ := trodVars_none hV
  obtain ⟨a0, len0, cap0, rfl⟩ := okWide_slice Try.underlying22 (hval 0 22 v0 rfl rfl)
  have k0 := h0
  have lt0 : ∀ x ∈ p0, x.block < W.heap.size := by obtain ⟨m, hm⟩ := k0; exact DataW.trod_lt m _ _ _ hm
  obtain ⟨ls, hlen, hks⟩ : ∃ ks : List Kn, ks.length = len0 ∧ KSl W a0 ks := by
    obtain ⟨fuel, hf⟩ := h0
    exact open_ks hf
  have hmax : len0 ≤ 9223372036854775807 := max_len h0
  subst hlen
  obtain ⟨n1, rfl, rfl, rfl, w1⟩ := open_int Try.underlying3 (hval 1 3 v1 rfl rfl) h1
  clear hA0 hval0
  have hcall : Calls Try.prog 3 #[.slice a0 ls.length cap0, .int .i64 n1] W (BoolTrue W) := by
    by_cases hb : ls.length ≤ 60
    · exact law3 a0 cap0 ls n1 W hks hb
    · exact law_big3 a0 ls.length cap0 n1 W (by omega) hmax
  refine hcall.mono fun e W' ⟨he, bel⟩ => ?_
  subst he
  exact ⟨_, rfl, _, _, _, [], _, [], hW', trodAll_mk1 (shut_bool Try.underlying4 _), (trodAll_cons_mk (Below.trod laidOut (by kernel_rfl) (of_decide_eq_true (by kernel_rfl)) k0 bel lt0) (trodAll_cons_mk (shut_int Try.underlying3 w1) trodAll_mk0)), rfl, bel.frame _, fun h => by cases h⟩

theorem over3 : Rows.historyOrdersRow.holds Try.pinned (OpenSpec.ofChange Rows.historyOrdersSpec) :=
  OpenClaim.holds_of_wide 3 Try.f3 rfl rfl rfl rfl rfl rfl rfl ⟨rfl, rfl, rfl, rfl, rfl⟩ rfl rfl rfl rfl rfl (by kernel_rfl) Try.func3 (by kernel_rfl)
    (of_decide_eq_true (by kernel_rfl)) (by unfold Func.isWrapper; first | (rw [if_pos (by decide +kernel)]; kernel_rfl) | (rw [if_neg (by decide +kernel)]; exact ⟨rfl, rfl⟩))
    (fun os started H enc _ => lifted3 os started H enc)

/-- For every acts and day, HistoryOrders returns true. -/
theorem historyOrders_holds : Rows.HistoryOrdersSaid := over3
#print axioms historyOrders_holds
end Go.Proofs.Ytfemjcbhgfhbjaa

