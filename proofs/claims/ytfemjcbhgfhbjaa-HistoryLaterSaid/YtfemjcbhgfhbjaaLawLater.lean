/-
  HistoryLater returns true, for every acts and two days.
-/
import Derived.Test.YtfemjcbhgfhbjaaLaterP
namespace Go.Proofs.Ytfemjcbhgfhbjaa
open Go.ChangeShapes Go.WideShapes Go.ChangeAt Go.RowKit

set_option maxRecDepth 100000 in
set_option maxHeartbeats 1000000 in
theorem law_big5 (ao : Option Addr) (n c : Nat) (one two : Int) (w : World) (hn : 60 < n) (hm : n ≤ 9223372036854775807) : Calls Try.prog 5 #[.slice ao n c, .int .i64 one, .int .i64 two] w (BoolTrue w) := by
  go_enter Try.func5, Try.ntmps5
  go_wp2_with (go_at_call 8; refine (head_c _).mono ?_; rintro e w1 ⟨rfl, hx⟩)
  go_ret
  exact ⟨rfl, hx⟩

/-- One more act at the end of a slice that we own. -/
theorem own_add {L : List Kn} {n : Nat} {x : Kn} {w wr w1 : World} {v v' : Value} (hown : wr.ownsRow w.heap.size 56 49 v n (flat L)) (hxt : Ext w wr)
    (h1 : w1.ownsRow w.heap.size 56 49 v' (n + 1) (flat L ++ x.cl)) (h2 : (wr.alloc (.cells x.cs 56)).grownBy w1 v.ownBlock) : w1.ownsRow w.heap.size 56 49 v' (n + 1) (flat (L ++ [x])) ∧ Ext w w1 := by
  refine ⟨?_, (hxt.alloc _).grown h2 (by have := hxt.size; simp; omega) (fun b hb => (hown.lt b hb).1)⟩
  rw [flat_append, flat_one]
  exact h1

set_option maxRecDepth 100000 in
set_option maxHeartbeats 2000000 in
theorem law5 (ao : Option Addr) (c : Nat) (ls : List Kn) (one two : Int) (w : World) (hl : KSl w ao ls) (hn : ls.length ≤ 60) : Calls Try.prog 5 #[.slice ao ls.length c, .int .i64 one, .int .i64 two] w (BoolTrue w) := by
  have HL := Lib.hid hl
  have hsz := run_small ls hn
  have hadd := Lib.hid (fun w1 (h : KSl w1 ao ls) => added_c ao c ls w1 h (by omega))
  have hlen := Lib.hid (runK_len ls ([], []))
  have hmm := Lib.hid (mn_mx one two)
  have hlat := Lib.hid (later_law ls hmm.out)
  have htak := Lib.hid (atK_take (run_sorted ls) hmm.out)
  have hol := only_len ls (runK ([], []) ls).2 (mn one two) ls.length
  have hgs := run_small (onlyK ls (runK ([], []) ls).2 (mn one two) ls.length) (by omega)
  have hadr : Hid (∀ (a1 : Option Addr) (c1 : Nat) (w1 : World), KSl w1 a1 (onlyK ls (runK ([], []) ls).2 (mn one two) ls.length) → Calls Try.prog 9 #[.slice a1 (onlyK ls (runK ([], []) ls).2 (mn one two) ls.length).length c1] w1 (AddedPost (onlyK ls (runK ([], []) ls).2 (mn one two) ls.length) w1)) := fun a1 c1 w1 h =>
    added_c a1 c1 _ w1 h (by omega)
  unfold AddedPost at hadd hadr
  clear hl
  generalize (runK ([], []) (onlyK ls (runK ([], []) ls).2 (mn one two) ls.length)).1.1 = ksr at *
  generalize (runK ([], []) (onlyK ls (runK ([], []) ls).2 (mn one two) ls.length)).1.2 = usr at *
  generalize (runK ([], []) (onlyK ls (runK ([], []) ls).2 (mn one two) ls.length)).2 = esr at *
  generalize (runK ([], []) ls).1.1 = ks at *
  generalize (runK ([], []) ls).1.2 = us at *
  generalize (runK ([], []) ls).2 = es at *
  have hat1 : Hid (∀ (hb : Nat) (w' : World), HistR w' hb ks → Calls Try.prog 10 #[.pointer (some ⟨hb, 0, none⟩), .int .i64 (mn one two)] w' (AtCap (atK ks (mn one two)) w')) := fun hb w' h => at_cc hb ks _ w' h (by omega)
  have hat2 : Hid (∀ (hb : Nat) (w' : World), HistR w' hb ks → Calls Try.prog 10 #[.pointer (some ⟨hb, 0, none⟩), .int .i64 (mx one two)] w' (AtCap (atK ks (mx one two)) w')) := fun hb w' h => at_cc hb ks _ w' h (by omega)
  have hat3 : Hid (∀ (hb : Nat) (w' : World), HistR w' hb ksr → Calls Try.prog 10 #[.pointer (some ⟨hb, 0, none⟩), .int .i64 (mx one two)] w' (AtCap (atK ks (mn one two)) w')) := fun hb w' h => by
    have := at_cc hb ksr (mx one two) w' h (by omega)
    rw [hlat.out] at this
    exact this
  have hls : (atK ks (mn one two)).length ≤ 60 := by have := atK_sub (ks := ks) (n := mn one two); have := this.length_le; omega
  have hle : (atK ks (mn one two)).length ≤ (atK ks (mx one two)).length := by
    have := congrArg List.length htak.out
    rw [List.length_take] at this
    omega
  have hlm : (atK ks (mx one two)).length ≤ 60 := by have := atK_sub (ks := ks) (n := mx one two); have := this.length_le; omega
  have hksl : Hid (∀ (a : Option Addr) (w' : World), KSl w' a (atK ks (mx one two)) → KSl w' a (atK ks (mn one two))) := fun a w' h => by
    have := h.take (atK ks (mn one two)).length
    rw [htak.out] at this
    exact this
  have hsame : Hid (∀ (a1 a2 : Option Addr) (c1 c2 : Nat) (w' : World), KSl w' a1 (atK ks (mn one two)) → KSl w' a2 (atK ks (mn one two)) → Calls Try.prog 13 #[.slice a1 (atK ks (mn one two)).length c1, .slice a2 (atK ks (mn one two)).length c2] w' fun e w'' => e = .returned (.bool true) ∧ Ext w' w'') := fun a1 a2 c1 c2 w' h1 h2 => by
    have := same_c a1 a2 _ _ c1 c2 w' h1 h2 (by omega)
    rw [same_refl] at this
    exact this
  unfold AtCap at hat1 hat2 hat3
  clear hlat htak
  generalize atK ks (mn one two) = l1 at *
  generalize atK ks (mx one two) = l2 at *
  obtain ⟨i0, z0, hi, hz0, hzs, hszz, hby⟩ := zero56
  have HI := Lib.hid hi
  have HZ := Lib.hid hz0
  have HZS := Lib.hid hzs
  have HSZ := Lib.hid hszz
  have HBY := Lib.hid hby
  clear hi hz0 hzs hszz hby
  go_enter Try.func5, Try.ntmps5
  go_wp2_with (first
    | (go_at_call 8; refine (head_c _).mono ?_; rintro e w1 ⟨rfl, hx1⟩)
    | (go_at_call 9; refine (hadd.out _ (HL.out.ext hx1)).mono ?_; rintro e w2 ⟨hb, eo, ec, rfl, hh, he, hx2, _⟩; have HH := Lib.hid hh.read; have HE := Lib.hid he; have HX := Lib.hid (hx1.trans hx2); clear hh he hx1 hx2)
    | (go_at_call_of 10 (Value.int .i64 (mn one two)); refine (hat1.out hb _ HH.out).mono ?_; rintro e w3 ⟨ka, kc, rfl, hk3, hx3, hc3⟩; have HK3 := Lib.hid hk3; have HH3 := Lib.hid (HH.out.ext hx3); have HE3 := Lib.hid (HE.out.ext hx3); have HX3 := Lib.hid (HX.out.trans hx3); clear hk3 hx3)
    | (go_at_call_of 10 (Value.int .i64 (mx one two)); refine (hat2.out hb _ HH3.out).mono ?_; rintro e w4 ⟨la, lc, rfl, hk4, hx4, hc4⟩; have HK4 := Lib.hid hk4; have HK34 := Lib.hid (HK3.out.ext hx4); have HE4 := Lib.hid (HE3.out.ext hx4); have HX4 := Lib.hid (HX3.out.trans hx4); clear hk4 hx4))
  clear HK3 HH3 HE3 HX3 HH HE HX
  go_loopw [12, 13] (fun v i wr => ∃ k : Nat, k ≤ ls.length ∧ i = .int .i64 k ∧ Hid (wr.ownsRow w4.heap.size 56 49 v (onlyK ls es (mn one two) k).length (flat (onlyK ls es (mn one two) k))) ∧ Hid (Ext w4 wr)) (fun _ i _ => ls.length - (intOf i).toNat)
  case atStart => exact ⟨0, Nat.zero_le _, rfl, World.ownsRow_nil _ _ _ _, Ext.refl _⟩
  case round =>
    obtain ⟨k, hk, rfl, hown, hx⟩ := hrel
    by_cases hlt : k < ls.length
    · obtain ⟨x, hxk⟩ : ∃ x, ls[k]? = some x := ⟨_, List.getElem?_eq_getElem hlt⟩
      obtain ⟨er, her⟩ : ∃ er, es[k]? = some er := ⟨_, List.getElem?_eq_getElem (by have := hlen.out; omega)⟩
      have hst := Lib.hid (only_step (m := mn one two) hxk her)
      have hln := only_len ls es (mn one two) k
      obtain ⟨eb, rfl, hec⟩ := HE4.out k er her
      obtain ⟨b, off, rfl, hxa⟩ := HL.out k x hxk
      have hxw := HX4.out.trans hx.out
      have f0 : wr.cell? ⟨eb, k, none⟩ = some (.int .i64 er) := by rw [hx.out.cell (block_lt_of_cell hec)]; exact hec
      have f1 := (hxa.ext hxw).has
      have f2 := (hxa.ext hxw).eq
      have f3 := (hxa.ext hxw).cell.1
      have i1 : (0 : Int) ≤ (k : Int) := by omega
      have i2 : (k : Int) < (ls.length : Int) := by omega
      clear hxk hxa hec her hxw
      generalize hL' : onlyK ls es (mn one two) (k + 1) = L' at hst
      have HL' := Lib.hid hL'
      clear hL'
      generalize onlyK ls es (mn one two) k = L at *
      by_cases h0 : er = 0
      · subst h0
        by_cases hd : x.d ≤ mn one two
        · have hst' : Hid (L' = L ++ [x]) := by
            have := hst.out
            rw [if_pos ⟨rfl, hd⟩] at this
            exact this
          clear hst
          go_wp2_with (at_builtin; refine wpList_append_own _ rfl _ _ 22 rfl w4.heap.size 56 i0 z0 49 696 Try.underlying22 HI.out HZ.out HSZ.out HBY.out HZS.out (by decide) _ L.length (flat L) rfl (hown.out.alloc _) ⟨wr.heap.size, 0, none⟩ 1 1 x.cl rfl ?c1 ?c2 ?c3 ?c4 ?c5 ?c6 ?_)
          case c1 => rw [x.len]
          case c2 => exact fun j u hu => by rw [Addr.add_mid]; exact KAt.new wr x 56 j u hu
          case c3 => exact x.one'
          case c4 => unfold maxLen; omega
          case c5 => omega
          case c6 => have := hx.out.size; simp; omega
          intro v' w5 ho5 hg5 _
          have hno := own_add hown.out hx.out ho5 hg5
          have hn1 : Hid (w5.ownsRow w4.heap.size 56 49 v' L'.length (flat L')) := by
            rw [hst'.out, List.length_append]
            exact hno.1
          have hn2 := Lib.hid hno.2
          clear ho5 hg5 hno
          go_wp2_with fail
          go_roundw
          case rel => exact ⟨k + 1, by omega, by go_num, by rw [HL'.out]; exact hn1.out, hn2.out⟩
          case measure => simp [intOf]; omega
        · have hst' : Hid (L' = L) := by
            have := hst.out
            rw [if_neg (fun h => hd h.2), List.append_nil] at this
            exact this
          rw [← hst'.out] at hown
          clear hst
          go_wp2_with fail
          go_roundw
          case rel => exact ⟨k + 1, by omega, by go_num, by rw [HL'.out]; exact hown.out, hx.out⟩
          case measure => simp [intOf]; omega
      · have hst' : Hid (L' = L) := by
          have := hst.out
          rw [if_neg (fun h => h0 h.1), List.append_nil] at this
          exact this
        rw [← hst'.out] at hown
        clear hst
        go_wp2_with fail
        go_roundw
        case rel => exact ⟨k + 1, by omega, by go_num, by rw [HL'.out]; exact hown.out, hx.out⟩
        case measure => simp [intOf]; omega
    · have hkl : k = ls.length := by omega
      subst hkl
      obtain ⟨ra, rc, rfl, hrk⟩ := KSl.of_owns hown.out
      have HRK := Lib.hid hrk
      clear hown hrk
      generalize onlyK ls es (mn one two) ls.length = L at *
      have HK5 := Lib.hid (HK34.out.ext hx.out)
      have HK6 := Lib.hid (hksl.out _ _ (HK4.out.ext hx.out))
      have HX1 := Lib.hid (HX4.out.trans hx.out)
      clear hx HK4 HK34 HX4
      have j1 : (l1.length : Int) ≤ (l2.length : Int) := by omega
      have j2 : (l1.length : Int) ≤ (lc : Int) := by omega
      go_wp2_with (first
        | (go_at_call 9; refine (hadr.out ra rc _ HRK.out).mono ?_; rintro e w6 ⟨hb', eo', ec', rfl, hh, _, hx6, _⟩; have HG := Lib.hid hh.read; have HK5' := Lib.hid (HK5.out.ext hx6); have HK6' := Lib.hid (HK6.out.ext hx6); have HX2 := Lib.hid (HX1.out.trans hx6); clear hh hx6)
        | (go_at_call 10; refine (hat3.out hb' _ HG7.out).mono ?_; rintro e w8 ⟨ga, gc, rfl, hk8, hx8, _⟩; have HK8 := Lib.hid hk8; have HK58 := Lib.hid (HK57.out.ext hx8); have HX8 := Lib.hid (HX7.out.trans hx8); clear hk8 hx8)
        | (go_at_call 13; refine (hsame.out ka ga kc gc _ HK58.out HK8.out).mono ?_; rintro e w9 ⟨rfl, hx9⟩; have HX9 := Lib.hid (HX8.out.trans hx9); clear hx9)
        | (go_at_call 13; refine (hsame.out ka la kc lc _ HK5'.out HK6'.out).mono ?_; rintro e w7 ⟨rfl, hx7⟩; have HX7 := Lib.hid (HX2.out.trans hx7); have HG7 := Lib.hid (HG.out.ext hx7); have HK57 := Lib.hid (HK5'.out.ext hx7); clear hx7))
      go_ret
      exact ⟨rfl, HX9.out⟩

set_option maxRecDepth 100000 in
theorem lifted5 (os : Os) (started : os.Started) (H : Type) (enc : TypeId × Value → H) :
    ReturnsInHanded {} Try.checked os 5 .any (Rows.historyLaterSpec.pre6 enc Try.prog Try.f5 Rows.historyLaterRow.domain false) (Rows.historyLaterSpec.post enc Try.prog Try.f5 false true false false) := by
  refine returnsInHanded_of_change (C := Try.checked) own started (by kernel_rfl) Try.func5
    (ChangeSpec.witness6 (enc := enc) (C := Try.checked) false ⟨#[], #[.slice none 0 0, .int .i64 0, .int .i64 0], []⟩ 8 (by kernel_rfl) (by kernel_rfl) (by kernel_rfl) (by kernel_rfl)) ?_
  intro W base args ds gs before hval0 hW hcnd _
  have hval : ∀ (j : Nat) t v, Try.f5.params[j]? = some t → args[j]? = some v → Value.okWide Try.prog W .any base t v := hval0
  have hW' := hW
  obtain ⟨p, q, hA0, hV, rfl, hfz, hnd⟩ := hW
  have hA : DataW.TrodAll enc Try.prog W 0 (fun _ => true) true Try.f5.params.toList args.toList ds p := hA0
  rw [Try.params5] at hA hval
  obtain ⟨v0, vs0, d0, ds0, p0, q0, hargs, rfl, rfl, h0, r0⟩ := trodAll_cons hA
  obtain ⟨v1, vs1, d1, ds1, p1, q1, rfl, rfl, rfl, h1, r1⟩ := trodAll_cons r0
  obtain ⟨v2, vs2, d2, ds2, p2, q2, rfl, rfl, rfl, h2, r2⟩ := trodAll_cons r1
  obtain ⟨rfl, rfl, rfl⟩ := trodAll_nil r2
  obtain rfl : args = #[v0, v1, v2] := by cases args; simp_all
  obtain ⟨rfl, rfl⟩ := trodVars_none hV
  obtain ⟨a0, len0, cap0, rfl⟩ := okWide_slice Try.underlying22 (hval 0 22 v0 rfl rfl)
  have k0 := h0
  have lt0 : ∀ x ∈ p0, x.block < W.heap.size := by obtain ⟨m, hm⟩ := k0; exact DataW.trod_lt m _ _ _ hm
  obtain ⟨ls, hlen, hks⟩ : ∃ ks : List Kn, ks.length = len0 ∧ KSl W a0 ks := by
    obtain ⟨fuel, hf⟩ := h0
    exact open_ks hf
  have hmax : len0 ≤ 9223372036854775807 := max_len h0
  subst hlen
  obtain ⟨n1, rfl, rfl, rfl, w1⟩ := open_int Try.underlying3 (hval 1 3 v1 rfl rfl) h1
  obtain ⟨n2, rfl, rfl, rfl, w2⟩ := open_int Try.underlying3 (hval 2 3 v2 rfl rfl) h2
  clear hA0 hval0
  have hcall : Calls Try.prog 5 #[.slice a0 ls.length cap0, .int .i64 n1, .int .i64 n2] W (BoolTrue W) := by
    by_cases hb : ls.length ≤ 60
    · exact law5 a0 cap0 ls n1 n2 W hks hb
    · exact law_big5 a0 ls.length cap0 n1 n2 W (by omega) hmax
  refine hcall.mono fun e W' ⟨he, bel⟩ => ?_
  subst he
  exact ⟨_, rfl, _, _, _, [], _, [], hW', trodAll_mk1 (shut_bool Try.underlying4 _), (trodAll_cons_mk (Below.trod laidOut (by kernel_rfl) (of_decide_eq_true (by kernel_rfl)) k0 bel lt0) (trodAll_cons_mk (shut_int Try.underlying3 w1) (trodAll_cons_mk (shut_int Try.underlying3 w2) trodAll_mk0))), rfl, bel.frame _, fun h => by cases h⟩

theorem over5 : Rows.historyLaterRow.holds Try.pinned (OpenSpec.ofChange Rows.historyLaterSpec) :=
  OpenClaim.holds_of_wide 5 Try.f5 rfl rfl rfl rfl rfl rfl rfl ⟨rfl, rfl, rfl, rfl, rfl⟩ rfl rfl rfl rfl rfl (by kernel_rfl) Try.func5 (by kernel_rfl)
    (of_decide_eq_true (by kernel_rfl)) (by unfold Func.isWrapper; first | (rw [if_pos (by decide +kernel)]; kernel_rfl) | (rw [if_neg (by decide +kernel)]; exact ⟨rfl, rfl⟩))
    (fun os started H enc _ => lifted5 os started H enc)

/-- For every acts and two days, HistoryLater returns true. -/
theorem historyLater_holds : Rows.HistoryLaterSaid := over5
#print axioms historyLater_holds
end Go.Proofs.Ytfemjcbhgfhbjaa

