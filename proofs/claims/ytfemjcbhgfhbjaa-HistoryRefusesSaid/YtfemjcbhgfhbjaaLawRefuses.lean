/-
  HistoryRefuses returns true, for every acts, act and day.
-/
import Derived.Test.YtfemjcbhgfhbjaaRefuseP
namespace Go.Proofs.Ytfemjcbhgfhbjaa
open Go.ChangeShapes Go.WideShapes Go.ChangeAt Go.RowKit

set_option maxRecDepth 100000 in
set_option maxHeartbeats 1000000 in
theorem law_big7 (ao : Option Addr) (n c : Nat) (k : Kn) (known : Int) (w : World) (hn : 60 < n) (hm : n ≤ 9223372036854775807) : Calls Try.prog 7 #[.slice ao n c, .agg k.cs, .int .i64 known] w (BoolTrue w) := by
  go_enter Try.func7, Try.ntmps7
  go_wp2_with (go_at_call 8; refine (head_c _).mono ?_; rintro e w1 ⟨rfl, hx⟩)
  go_ret
  exact ⟨rfl, (Ext.new _ _).trans hx⟩

theorem below_ext {base : Nat} {w0 w w' : World} (h : Ext w0 w) (hb : w0.heap.size ≤ base) (h2 : Below base w w') : Ext w0 w' := Below.trans h (h2.mono hb)

set_option maxRecDepth 100000 in
set_option maxHeartbeats 4000000 in
theorem law7 (ao : Option Addr) (c : Nat) (ls : List Kn) (k : Kn) (known : Int) (w : World) (hl : KSl w ao ls) (hn : ls.length ≤ 60) : Calls Try.prog 7 #[.slice ao ls.length c, .agg k.cs, .int .i64 known] w (BoolTrue w) := by
  have HL := Lib.hid hl
  have hsz := run_small ls hn
  have hadd := Lib.hid (fun w1 (h : KSl w1 ao ls) => added_c ao c ls w1 h (by omega))
  have hlen := Lib.hid (runK_len ls ([], []))
  have hinv := Lib.hid (runK_inv ls (s := ([], [])) Inv.nil)
  have htw := Lib.hid (tw_all ls k)
  unfold AddedPost at hadd
  clear hl
  generalize (runK ([], []) ls).1 = st at *
  generalize (runK ([], []) ls).2 = es at *
  have hat : Hid (∀ (hb : Nat) (w' : World), HistR w' hb st.1 → Calls Try.prog 10 #[.pointer (some ⟨hb, 0, none⟩), .int .i64 known] w' (AtOwn (atK st.1 known) w')) := fun hb w' h => at_co hb st.1 known w' h (by omega)
  have hadk : Hid (∀ (base hb : Nat) (w' : World), Hist w' base hb st.1 st.2 → Calls Try.prog 16 #[.pointer (some ⟨hb, 0, none⟩), .agg k.cs] w' (Added base hb (stepK st k) w')) := fun base hb w' h => add_c k base hb st w' h hinv.out (by omega)
  have hlm : (atK st.1 known).length ≤ 60 := by have := atK_sub (ks := st.1) (n := known); have := this.length_le; omega
  have hsame : Hid (∀ (a1 a2 : Option Addr) (c1 c2 : Nat) (w' : World), KSl w' a1 (atK st.1 known) → KSl w' a2 (atK st.1 known) → Calls Try.prog 13 #[.slice a1 (atK st.1 known).length c1, .slice a2 (atK st.1 known).length c2] w' fun e w'' => e = .returned (.bool true) ∧ Ext w' w'') := fun a1 a2 c1 c2 w' h1 h2 => by
    have := same_c a1 a2 _ _ c1 c2 w' h1 h2 (by omega)
    rw [same_refl] at this
    exact this
  unfold AtOwn at hat
  unfold Added at hadk
  generalize atK st.1 known = l at *
  go_enter Try.func7, Try.ntmps7
  go_wp2_with (first
    | (go_at_call 8; refine (head_c _).mono ?_; rintro e w1 ⟨rfl, hx1⟩; have HK := Lib.hid ((KAt.new w k 56).ext hx1); have HX1 := Lib.hid ((Ext.new w (.cells k.cs 56)).trans hx1); clear hx1)
    | (go_at_call 9; refine (hadd.out _ (HL.out.ext HX1.out)).mono ?_; rintro e w2 ⟨hb, eo, ec, rfl, hh, he, hx2, _⟩; have HH := Lib.hid hh; have HE := Lib.hid he; have HX2 := Lib.hid (HX1.out.trans hx2); have HK2 := Lib.hid (HK.out.ext hx2); clear hh he hx2)
    | (go_at_call 10; refine (hat.out hb _ HH.out.read).mono ?_; rintro e w3 ⟨ga, gc, rfl, hk3, hx3⟩; have HG := Lib.hid hk3; have HH3 := Lib.hid (HH.out.ext hx3); have HE3 := Lib.hid (HE.out.ext hx3); have HX3 := Lib.hid (HX2.out.trans hx3); have HK3 := Lib.hid (HK2.out.ext hx3); clear hk3 hx3)
    | (at_builtin; refine wpList_append_src rfl _ _ rfl w3.heap.size w2.heap.size _ 0 [] rfl ?c1 _ l rfl ?c2 ?c3 ?c4 ?_))
  case c1 => exact World.ownsRow_lit w3 #[] 0 (Nat.le_refl _) (by unfold maxLen; omega) rfl
  case c2 => exact HG.out.alloc _
  case c3 => omega
  case c4 => simp
  intro cv w4 ho4 hg4
  have hx4 : Ext w3 w4 := (Ext.new w3 (.cells #[] 56)).grown hg4 (by simp) (fun g hg => by simp only [Value.ownBlock, Option.some.injEq] at hg; omega)
  have HC : Hid (w4.ownsRow w3.heap.size 56 49 cv l.length (flat l)) := show w4.ownsRow w3.heap.size 56 49 cv l.length (flat l) by simpa using ho4
  obtain ⟨ca, cc, rfl, _⟩ := KSl.of_owns HC.out
  have HG4 := Lib.hid (own56_ty HG.out (TyKept.of_ext hx4))
  have HH4 := Lib.hid (HH3.out.ext hx4)
  have HE4 := Lib.hid (HE3.out.ext hx4)
  have HX4 := Lib.hid (HX3.out.trans hx4)
  have HK4 := Lib.hid (HK3.out.ext hx4)
  have hb1 := Lib.hid HX1.out.size
  clear ho4 hg4 hx4 HG HH3 HE3 HX3 HK3 HK2 HX2 HE HH HK HX1
  obtain ⟨kb, hkb0⟩ : ∃ kb, w.heap.size = kb := ⟨_, rfl⟩
  rw [hkb0] at HK4 hb1
  have hkb := Lib.hid hkb0
  rw [hkb0]
  clear hkb0
  go_wp2_with fail
  go_loopw [12, 13] (fun tw i wr => ∃ j : Nat, j ≤ ls.length ∧ i = .int .i64 j ∧ tw = .bool (twK ls es k j) ∧ Hid (Ext w4 wr)) (fun _ i _ => ls.length - (intOf i).toNat)
  case atStart => exact ⟨0, Nat.zero_le _, rfl, rfl, Ext.refl _⟩
  case round =>
    obtain ⟨j, hj, rfl, rfl, hx⟩ := hrel
    obtain ⟨c0, c1, c2, c3, _⟩ := (HK4.out.ext hx.out).cell
    simp only [Nat.zero_add] at c1 c2 c3
    by_cases hlt : j < ls.length
    · obtain ⟨x, hxk⟩ : ∃ x, ls[j]? = some x := ⟨_, List.getElem?_eq_getElem hlt⟩
      obtain ⟨er, her⟩ : ∃ er, es[j]? = some er := ⟨_, List.getElem?_eq_getElem (by have := hlen.out; omega)⟩
      have hst := Lib.hid (tw_step (k := k) hxk her)
      obtain ⟨eb, rfl, hec⟩ := HE4.out j er her
      obtain ⟨b, off, rfl, hxa⟩ := HL.out j x hxk
      have hxw := HX4.out.trans hx.out
      have f0 : wr.cell? ⟨eb, j, none⟩ = some (.int .i64 er) := by rw [hx.out.cell (block_lt_of_cell hec)]; exact hec
      obtain ⟨_, f1, f2, f3, _⟩ := (hxa.ext hxw).cell
      have i1 : (0 : Int) ≤ (j : Int) := by omega
      have i2 : (j : Int) < (ls.length : Int) := by omega
      clear hxk hxa hec hxw her
      generalize hq' : twK ls es k (j + 1) = q' at hst
      have HQ' := Lib.hid hq'
      clear hq'
      generalize twK ls es k j = q at *
      cases q with
      | true =>
        go_wp2_with fail
        refine wp_region_more (by kernel_rfl) (by kernel_rfl) ?_
        repeat (go_big_quiet_step (fail))
        refine wpQuiet_nil ?_
        rintro _ ⟨nq, rfl⟩
        go_wp2_with fail
        go_roundw
        case rel => exact ⟨j + 1, by omega, by go_num, by rw [HQ'.out, hst.out]; rfl, hx.out.trans (more_ext _ _)⟩
        case measure => simp [intOf]; omega
      | false =>
        by_cases h0 : er = 0
        · subst h0
          by_cases h1 : x.o = k.o
          · have b1 : (x.o == k.o) = true := by simp [h1]
            by_cases h2 : x.n = k.n
            · have b2 : (x.n == k.n) = true := by simp [h2]
              by_cases h3 : x.i = k.i
              · have b3 : (x.i == k.i) = true := by simp [h3]
                go_wp2_with fail
                refine wp_region_more (by kernel_rfl) (by kernel_rfl) ?_
                repeat (go_big_quiet_step (fail))
                refine wpQuiet_nil ?_
                rintro _ ⟨nq, rfl⟩
                go_wp2_with fail
                go_roundw
                case rel => exact ⟨j + 1, by omega, by go_num, by rw [HQ'.out, hst.out]; simp [h1, h2, h3], hx.out.trans (more_ext _ _)⟩
                case measure => simp [intOf]; omega
              · have b3 : (x.i == k.i) = false := by simp [h3]
                go_wp2_with fail
                refine wp_region_more (by kernel_rfl) (by kernel_rfl) ?_
                repeat (go_big_quiet_step (fail))
                refine wpQuiet_nil ?_
                rintro _ ⟨nq, rfl⟩
                go_wp2_with fail
                go_roundw
                case rel => exact ⟨j + 1, by omega, by go_num, by rw [HQ'.out, hst.out]; simp [h3], hx.out.trans (more_ext _ _)⟩
                case measure => simp [intOf]; omega
            · have b2 : (x.n == k.n) = false := by simp [h2]
              go_wp2_with fail
              refine wp_region_more (by kernel_rfl) (by kernel_rfl) ?_
              repeat (go_big_quiet_step (fail))
              refine wpQuiet_nil ?_
              rintro _ ⟨nq, rfl⟩
              go_wp2_with fail
              go_roundw
              case rel => exact ⟨j + 1, by omega, by go_num, by rw [HQ'.out, hst.out]; simp [h2], hx.out.trans (more_ext _ _)⟩
              case measure => simp [intOf]; omega
          · have b1 : (x.o == k.o) = false := by simp [h1]
            go_wp2_with fail
            refine wp_region_more (by kernel_rfl) (by kernel_rfl) ?_
            repeat (go_big_quiet_step (fail))
            refine wpQuiet_nil ?_
            rintro _ ⟨nq, rfl⟩
            go_wp2_with fail
            go_roundw
            case rel => exact ⟨j + 1, by omega, by go_num, by rw [HQ'.out, hst.out]; simp [h1], hx.out.trans (more_ext _ _)⟩
            case measure => simp [intOf]; omega
        · have b0 : (er == 0) = false := by simp [h0]
          go_wp2_with fail
          refine wp_region_more (by kernel_rfl) (by kernel_rfl) ?_
          repeat (go_big_quiet_step (fail))
          refine wpQuiet_nil ?_
          rintro _ ⟨nq, rfl⟩
          go_wp2_with fail
          go_roundw
          case rel => exact ⟨j + 1, by omega, by go_num, by rw [HQ'.out, hst.out]; simp [h0], hx.out.trans (more_ext _ _)⟩
          case measure => simp [intOf]; omega
    · have hjl : j = ls.length := by omega
      subst hjl
      have hkn := Lib.hid (HK4.out.ext hx.out)
      have HG5 := Lib.hid (own56_ty HG4.out (TyKept.of_ext hx.out))
      have HC5 := Lib.hid (own56_ty HC.out (TyKept.of_ext hx.out))
      have HH5 := Lib.hid (HH4.out.ext hx.out)
      have HX5 := Lib.hid (HX4.out.trans hx.out)
      clear HG4 HC HH4 HE4 HX4 HK4 hx
      generalize twK ls es k ls.length = q at *
      go_upto_region 12 with fail
      go_cut [14] (fun v w' => v = .bool k.valid ∧ w' = wr)
      case first =>
        go_wp2
        all_goals go_meet
        all_goals refine ⟨bool_eq ?_, rfl⟩
        all_goals first
          | exact validB_true (by omega) (by omega) (by omega) (by omega) (by omega) (by omega) (by omega)
          | exact validB_false (by omega)
      case rest =>
        obtain ⟨rfl, rfl⟩ := hcut
        have g1 := hkn.out.has
        have g2 := hkn.out.eq
        cases hv : k.valid with
        | false =>
          have hs : stepK st k = (st, 1) := by unfold stepK; rw [if_pos hv]
          rw [hs] at hadk
          clear hs
          cases q with
          | true =>
            go_wp2_with (first
              | (go_at_call 16; refine (hadk.out w1.heap.size hb _ HH5.out).mono ?_; rintro e w6 ⟨rfl, hh6, hb6, ht6⟩; have HH6 := Lib.hid hh6.read; have HG6 := Lib.hid (own56_ty HG5.out ht6); have HC6 := Lib.hid (own56_ty HC5.out ht6); have HX6 := Lib.hid (below_ext HX5.out (by rw [hkb.out]; exact hb1.out) hb6); clear hh6 hb6 ht6)
              | (go_at_call 10; refine (hat.out hb _ HH7.out).mono ?_; rintro e w8 ⟨na, nc, rfl, hk8, hx8⟩; have HN8 := Lib.hid (KSl.of_own hk8); have HG8 := Lib.hid ((KSl.of_own HG6.out).ext (hx7.trans hx8)); have HX8 := Lib.hid (HX7.out.trans hx8); clear hk8 hx8)
              | (go_at_call 13; refine (hsame.out na ga nc gc _ HN8.out HG8.out).mono ?_; rintro e w9 ⟨rfl, hx9⟩; have HX9 := Lib.hid (HX8.out.trans hx9); clear hx9)
              | (go_at_call 13; refine (hsame.out ga ca gc cc _ (KSl.of_own HG6.out) (KSl.of_own HC6.out)).mono ?_; rintro e w7 ⟨rfl, hx7⟩; have HX7 := Lib.hid (HX6.out.trans hx7); have HH7 := Lib.hid (HH6.out.ext hx7)))
            go_ret
            exact ⟨rfl, HX9.out⟩
          | false =>
            go_wp2_with (first
              | (go_at_call 16; refine (hadk.out w1.heap.size hb _ HH5.out).mono ?_; rintro e w6 ⟨rfl, hh6, hb6, ht6⟩; have HH6 := Lib.hid hh6.read; have HG6 := Lib.hid (own56_ty HG5.out ht6); have HC6 := Lib.hid (own56_ty HC5.out ht6); have HX6 := Lib.hid (below_ext HX5.out (by rw [hkb.out]; exact hb1.out) hb6); clear hh6 hb6 ht6)
              | (go_at_call 10; refine (hat.out hb _ HH7.out).mono ?_; rintro e w8 ⟨na, nc, rfl, hk8, hx8⟩; have HN8 := Lib.hid (KSl.of_own hk8); have HG8 := Lib.hid ((KSl.of_own HG6.out).ext (hx7.trans hx8)); have HX8 := Lib.hid (HX7.out.trans hx8); clear hk8 hx8)
              | (go_at_call 13; refine (hsame.out na ga nc gc _ HN8.out HG8.out).mono ?_; rintro e w9 ⟨rfl, hx9⟩; have HX9 := Lib.hid (HX8.out.trans hx9); clear hx9)
              | (go_at_call 13; refine (hsame.out ga ca gc cc _ (KSl.of_own HG6.out) (KSl.of_own HC6.out)).mono ?_; rintro e w7 ⟨rfl, hx7⟩; have HX7 := Lib.hid (HX6.out.trans hx7); have HH7 := Lib.hid (HH6.out.ext hx7)))
            go_ret
            exact ⟨rfl, HX9.out⟩
        | true =>
          cases q with
          | true =>
            have hs : stepK st k = (st, 9) := by unfold stepK; rw [if_neg (by simp [hv]), if_pos (htw.out.1 rfl)]
            rw [hs] at hadk
            clear hs
            go_wp2_with (first
              | (go_at_call 16; refine (hadk.out w1.heap.size hb _ HH5.out).mono ?_; rintro e w6 ⟨rfl, hh6, hb6, ht6⟩; have HH6 := Lib.hid hh6.read; have HG6 := Lib.hid (own56_ty HG5.out ht6); have HC6 := Lib.hid (own56_ty HC5.out ht6); have HX6 := Lib.hid (below_ext HX5.out (by rw [hkb.out]; exact hb1.out) hb6); clear hh6 hb6 ht6)
              | (go_at_call 10; refine (hat.out hb _ HH7.out).mono ?_; rintro e w8 ⟨na, nc, rfl, hk8, hx8⟩; have HN8 := Lib.hid (KSl.of_own hk8); have HG8 := Lib.hid ((KSl.of_own HG6.out).ext (hx7.trans hx8)); have HX8 := Lib.hid (HX7.out.trans hx8); clear hk8 hx8)
              | (go_at_call 13; refine (hsame.out na ga nc gc _ HN8.out HG8.out).mono ?_; rintro e w9 ⟨rfl, hx9⟩; have HX9 := Lib.hid (HX8.out.trans hx9); clear hx9)
              | (go_at_call 13; refine (hsame.out ga ca gc cc _ (KSl.of_own HG6.out) (KSl.of_own HC6.out)).mono ?_; rintro e w7 ⟨rfl, hx7⟩; have HX7 := Lib.hid (HX6.out.trans hx7); have HH7 := Lib.hid (HH6.out.ext hx7)))
            go_ret
            exact ⟨rfl, HX9.out⟩
          | false =>
            have hs : (stepK st k).2 = 0 := by
              unfold stepK
              rw [if_neg (by simp [hv]), if_neg (fun h => by have := htw.out.2 h; cases this)]
            rw [hs] at hadk
            clear hs
            generalize (stepK st k).1 = st' at *
            go_wp2_with (first
              | (go_at_call 16; refine (hadk.out w1.heap.size hb _ HH5.out).mono ?_; rintro e w6 ⟨rfl, _, hb6, ht6⟩; have HG6 := Lib.hid (own56_ty HG5.out ht6); have HC6 := Lib.hid (own56_ty HC5.out ht6); have HX6 := Lib.hid (below_ext HX5.out (by rw [hkb.out]; exact hb1.out) hb6); clear hb6 ht6)
              | (go_at_call 13; refine (hsame.out ga ca gc cc _ (KSl.of_own HG6.out) (KSl.of_own HC6.out)).mono ?_; rintro e w7 ⟨rfl, hx7⟩; have HX7 := Lib.hid (HX6.out.trans hx7); clear hx7))
            go_ret
            exact ⟨rfl, HX7.out⟩

set_option maxRecDepth 100000 in
theorem lifted7 (os : Os) (started : os.Started) (H : Type) (enc : TypeId × Value → H) :
    ReturnsInHanded {} Try.checked os 7 .any (Rows.historyRefusesSpec.pre6 enc Try.prog Try.f7 Rows.historyRefusesRow.domain false) (Rows.historyRefusesSpec.post enc Try.prog Try.f7 false true false false) := by
  refine returnsInHanded_of_change (C := Try.checked) own started (by kernel_rfl) Try.func7
    (ChangeSpec.witness6 (enc := enc) (C := Try.checked) false ⟨#[], #[.slice none 0 0, .agg (actK 0 0 0 0 ⟨#[]⟩).cs, .int .i64 0], []⟩ 8 (by kernel_rfl) (by kernel_rfl) (by kernel_rfl) (by kernel_rfl)) ?_
  intro W base args ds gs before hval0 hW hcnd _
  have hval : ∀ (j : Nat) t v, Try.f7.params[j]? = some t → args[j]? = some v → Value.okWide Try.prog W .any base t v := hval0
  have hW' := hW
  obtain ⟨p, q, hA0, hV, rfl, hfz, hnd⟩ := hW
  have hA : DataW.TrodAll enc Try.prog W 0 (fun _ => true) true Try.f7.params.toList args.toList ds p := hA0
  rw [Try.params7] at hA hval
  obtain ⟨v0, vs0, d0, ds0, p0, q0, hargs, rfl, rfl, h0, r0⟩ := trodAll_cons hA
  obtain ⟨v1, vs1, d1, ds1, p1, q1, rfl, rfl, rfl, h1, r1⟩ := trodAll_cons r0
  obtain ⟨v2, vs2, d2, ds2, p2, q2, rfl, rfl, rfl, h2, r2⟩ := trodAll_cons r1
  obtain ⟨rfl, rfl, rfl⟩ := trodAll_nil r2
  obtain rfl : args = #[v0, v1, v2] := by cases args; simp_all
  obtain ⟨rfl, rfl⟩ := trodVars_none hV
  obtain ⟨a0, len0, cap0, rfl⟩ := okWide_slice Try.underlying22 (hval 0 22 v0 rfl rfl)
  have k0 := h0
  have lt0 : ∀ x ∈ p0, x.block < W.heap.size := by obtain ⟨m, hm⟩ := k0; exact DataW.trod_lt m _ _ _ hm
  obtain ⟨ls, hlen, hks⟩ : ∃ ks : List Kn, ks.length = len0 ∧ KSl W a0 ks := by
    obtain ⟨fuel, hf⟩ := h0
    exact open_ks hf
  have hmax : len0 ≤ 9223372036854775807 := max_len h0
  subst hlen
  have k1 := h1
  have lt1 : ∀ x ∈ p1, x.block < W.heap.size := by obtain ⟨m, hm⟩ := k1; exact DataW.trod_lt m _ _ _ hm
  obtain ⟨cs1, rfl, _⟩ := okWide_struct Try.underlying56 (hval 1 56 v1 rfl rfl)
  obtain ⟨kn, rfl⟩ : ∃ k : Kn, cs1 = k.cs := by
    obtain ⟨fuel, hf⟩ := h1
    obtain ⟨k, hk⟩ := open_kn hf
    refine ⟨k, ?_⟩
    have : cs1.toList = k.cl := hk
    rw [Kn.cs, ← this]
  obtain ⟨n2, rfl, rfl, rfl, w2⟩ := open_int Try.underlying3 (hval 2 3 v2 rfl rfl) h2
  clear hA0 hval0
  have hcall : Calls Try.prog 7 #[.slice a0 ls.length cap0, .agg kn.cs, .int .i64 n2] W (BoolTrue W) := by
    by_cases hb : ls.length ≤ 60
    · exact law7 a0 cap0 ls kn n2 W hks hb
    · exact law_big7 a0 ls.length cap0 kn n2 W (by omega) hmax
  refine hcall.mono fun e W' ⟨he, bel⟩ => ?_
  subst he
  exact ⟨_, rfl, _, _, _, [], _, [], hW', trodAll_mk1 (shut_bool Try.underlying4 _), (trodAll_cons_mk (Below.trod laidOut (by kernel_rfl) (of_decide_eq_true (by kernel_rfl)) k0 bel lt0) (trodAll_cons_mk (Below.trod laidOut (by kernel_rfl) (of_decide_eq_true (by kernel_rfl)) k1 bel lt1) (trodAll_cons_mk (shut_int Try.underlying3 w2) trodAll_mk0))), rfl, bel.frame _, fun h => by cases h⟩

theorem over7 : Rows.historyRefusesRow.holds Try.pinned (OpenSpec.ofChange Rows.historyRefusesSpec) :=
  OpenClaim.holds_of_wide 7 Try.f7 rfl rfl rfl rfl rfl rfl rfl ⟨rfl, rfl, rfl, rfl, rfl⟩ rfl rfl rfl rfl rfl (by kernel_rfl) Try.func7 (by kernel_rfl)
    (of_decide_eq_true (by kernel_rfl)) (by unfold Func.isWrapper; first | (rw [if_pos (by decide +kernel)]; kernel_rfl) | (rw [if_neg (by decide +kernel)]; exact ⟨rfl, rfl⟩))
    (fun os started H enc _ => lifted7 os started H enc)

/-- For every acts, act and day, HistoryRefuses returns true. -/
theorem historyRefuses_holds : Rows.HistoryRefusesSaid := over7
#print axioms historyRefuses_holds
end Go.Proofs.Ytfemjcbhgfhbjaa
