/-
  HistoryArrives returns true, for every acts and day.
-/
import Derived.Test.YtfemjcbhgfhbjaaPure
namespace Go.Proofs.Ytfemjcbhgfhbjaa
open Go.ChangeShapes Go.WideShapes Go.ChangeAt Go.RowKit

set_option maxRecDepth 100000 in
set_option maxHeartbeats 1000000 in
theorem law_big4 (ao : Option Addr) (n c : Nat) (known : Int) (w : World) (hn : 60 < n) (hm : n ≤ 9223372036854775807) : Calls Try.prog 4 #[.slice ao n c, .int .i64 known] w (BoolTrue w) := by
  go_enter Try.func4, Try.ntmps4
  go_wp2_with (go_at_call 8; refine (head_c _).mono ?_; rintro e w1 ⟨rfl, hx⟩)
  go_ret
  exact ⟨rfl, hx⟩

theorem rev_get {ls : List Kn} {m j : Nat} {x : Kn} (hj : j + m + 1 = ls.length) (hx : ls[j]? = some x) : ls.reverse[m]? = some x := by
  rw [List.getElem?_reverse (by omega), ← hx]
  congr 1
  omega
theorem len_eq {l : List Int} {ls : List Kn} (h : l.length = ls.length) {j : Nat} (hj : j < ls.length) : ∃ x, l[j]? = some x := ⟨_, List.getElem?_eq_getElem (by omega)⟩

set_option maxRecDepth 100000 in
set_option maxHeartbeats 2000000 in
theorem law4 (ao : Option Addr) (c : Nat) (ls : List Kn) (known : Int) (w : World) (hl : KSl w ao ls) (hn : ls.length ≤ 60) : Calls Try.prog 4 #[.slice ao ls.length c, .int .i64 known] w (BoolTrue w) := by
  have HL := Lib.hid hl
  have hsz := run_small ls hn
  have hadd := Lib.hid (fun w1 (h : KSl w1 ao ls) => added_c ao c ls w1 h (by omega))
  have hlen := Lib.hid (runK_len ls ([], []))
  have hrev := Lib.hid (arrives_law ls)
  have hadr : Hid (∀ (a1 : Option Addr) (c1 : Nat) (w1 : World), KSl w1 a1 ls.reverse → Calls Try.prog 9 #[.slice a1 ls.length c1] w1 (AddedPost ls.reverse w1)) := fun a1 c1 w1 h => by
    have := added_c a1 c1 ls.reverse w1 h (by simp; omega)
    rw [List.length_reverse] at this
    exact this
  unfold AddedPost at hadd hadr
  rw [List.length_reverse] at hadr
  clear hl
  generalize (runK ([], []) ls.reverse).1.1 = ksr at *
  generalize (runK ([], []) ls.reverse).1.2 = usr at *
  generalize (runK ([], []) ls.reverse).2 = esr at *
  generalize (runK ([], []) ls).1.1 = ks at *
  generalize (runK ([], []) ls).1.2 = us at *
  generalize (runK ([], []) ls).2 = es at *
  have hat : Hid (∀ (hb : Nat) (w' : World), HistR w' hb ks → Calls Try.prog 10 #[.pointer (some ⟨hb, 0, none⟩), .int .i64 known] w' (AtPost (atK ks known) w')) := fun hb w' h => at_c hb ks known w' h (by omega)
  have hsame : Hid (∀ (a1 a2 : Option Addr) (c1 c2 : Nat) (w' : World), KSl w' a1 (atK ks known) → KSl w' a2 (atK ks known) → Calls Try.prog 13 #[.slice a1 (atK ks known).length c1, .slice a2 (atK ks known).length c2] w' fun e w'' => e = .returned (.bool true) ∧ Ext w' w'') := fun a1 a2 c1 c2 w' h1 h2 => by
    have := same_c a1 a2 _ _ c1 c2 w' h1 h2 (by have := atK_sub (ks := ks) (n := known); have := this.length_le; omega)
    rw [same_refl] at this
    exact this
  unfold AtPost at hat
  generalize atK ks known = l at *
  obtain ⟨i0, z0, hi, hz0, hzs, hszz, hby⟩ := zero56
  have HI := Lib.hid hi
  have HZ := Lib.hid hz0
  have HZS := Lib.hid hzs
  have HSZ := Lib.hid hszz
  have HBY := Lib.hid hby
  clear hi hz0 hzs hszz hby
  go_enter Try.func4, Try.ntmps4
  go_wp2_with (first
    | (go_at_call 8; refine (head_c _).mono ?_; rintro e w1 ⟨rfl, hx1⟩)
    | (go_at_call 9; refine (hadd.out _ (HL.out.ext hx1)).mono ?_; rintro e w2 ⟨hb, eo, ec, rfl, hh, he, hx2, _⟩; have HH := Lib.hid hh.read; have HE := Lib.hid he; have HX := Lib.hid (hx1.trans hx2); clear hh he hx1 hx2))
  go_loopw [8, 9] (fun v i wr => ∃ m : Nat, m ≤ ls.length ∧ i = .int .i64 ((ls.length : Int) - 1 - m) ∧ Hid (wr.ownsRow w2.heap.size 56 49 v m (flat (ls.reverse.take m))) ∧ Hid (Ext w2 wr) ∧ Hid (∀ j x, ls.length - m ≤ j → es[j]? = some x → x ≠ 9)) (fun _ i _ => (intOf i + 1).toNat)
  case atStart => exact ⟨0, Nat.zero_le _, by simp, World.ownsRow_nil _ _ _ _, Ext.refl _, fun j x hj hx => by
    have := (List.getElem?_eq_some_iff.1 hx).1
    have := hlen.out
    omega⟩
  case round =>
    obtain ⟨m, hm, rfl, hown, hx, hnn⟩ := hrel
    by_cases hlt : m < ls.length
    · obtain ⟨j, hj⟩ : ∃ j : Nat, j + m + 1 = ls.length := ⟨ls.length - m - 1, by omega⟩
      have hji : ((ls.length : Int) - 1 - m) = (j : Int) := by omega
      rw [hji]
      obtain ⟨x, hxk⟩ : ∃ x, ls[j]? = some x := ⟨_, List.getElem?_eq_getElem (by omega)⟩
      have hrx := Lib.hid (rev_get hj hxk)
      obtain ⟨er, her⟩ : ∃ er, es[j]? = some er := len_eq hlen.out (by omega)
      obtain ⟨eb, rfl, hec⟩ := HE.out j er her
      obtain ⟨b, off, rfl, hxa⟩ := HL.out j x hxk
      have hxw := HX.out.trans hx.out
      have f0 : wr.cell? ⟨eb, j, none⟩ = some (.int .i64 er) := by rw [hx.out.cell (block_lt_of_cell hec)]; exact hec
      have f1 := (hxa.ext hxw).has
      have f2 := (hxa.ext hxw).eq
      have HER := Lib.hid her
      have i1 : (0 : Int) ≤ (j : Int) := by omega
      have i2 : (j : Int) < (ls.length : Int) := by omega
      clear hxk hxa hec her
      by_cases h9 : er = 9
      · subst h9
        go_wp2_with fail
        go_ret
        exact ⟨rfl, hxw⟩
      · have HXW := Lib.hid hxw
        clear hxw
        go_wp2_with (at_builtin; refine wpList_append_own _ rfl _ _ 22 rfl w2.heap.size 56 i0 z0 49 696 Try.underlying22 HI.out HZ.out HSZ.out HBY.out HZS.out (by decide) _ m (flat (ls.reverse.take m)) rfl (hown.out.alloc _) ⟨wr.heap.size, 0, none⟩ 1 1 x.cl rfl ?c1 ?c2 ?c3 ?c4 ?c5 ?c6 ?_)
        case c1 => rw [x.len]
        case c2 => exact fun j u hu => by rw [Addr.add_mid]; exact KAt.new wr x 56 j u hu
        case c3 => exact x.one'
        case c4 => unfold maxLen; omega
        case c5 => omega
        case c6 => have := hx.out.size; simp; omega
        intro v' w3 ho3 hg3 _
        have hno := own_step hrx.out hown.out hx.out ho3 hg3
        have hn1 := Lib.hid hno.1
        have hn2 := Lib.hid hno.2
        have hn3 : Hid (∀ j' x', ls.length - (m + 1) ≤ j' → es[j']? = some x' → x' ≠ 9) := fun j' x' hj' hx' => by
          by_cases hjj : j' = j
          · subst hjj
            rw [HER.out] at hx'
            cases hx'
            exact h9
          · exact hnn.out j' x' (by omega) hx'
        clear ho3 hg3 hno
        go_wp2_with fail
        go_roundw
        case rel => exact ⟨m + 1, by omega, by go_num, hn1.out, hn2.out, hn3.out⟩
        case measure => simp [intOf]
    · have hml : m = ls.length := by omega
      subst hml
      have hji : ((ls.length : Int) - 1 - (ls.length : Nat)) = -1 := by omega
      rw [hji]
      have e1 : ls.reverse.take ls.length = ls.reverse := by rw [← List.length_reverse, List.take_length]
      rw [e1] at hown
      obtain ⟨ra, rc, rfl, hrk⟩ := KSl.of_owns' List.length_reverse hown.out
      have HRK := Lib.hid hrk
      have hkk : ksr = ks := hrev.out (fun e he => by
        obtain ⟨j, hj, hje⟩ := List.getElem_of_mem he
        exact hnn.out j e (by omega) (by rw [List.getElem?_eq_getElem hj, hje]))
      subst hkk
      clear hown hrk hnn hrev
      have HH1 := Lib.hid (HH.out.ext hx.out)
      have HX1 := Lib.hid (HX.out.trans hx.out)
      clear hx HH HX
      go_wp2_with (first
        | (go_at_call 9; refine (hadr.out ra rc _ HRK.out).mono ?_; rintro e w4 ⟨hb', eo', ec', rfl, hh, _, hx4, _⟩; have HG := Lib.hid hh.read; have HH2 := Lib.hid (HH1.out.ext hx4); have HX2 := Lib.hid (HX1.out.trans hx4); clear hh hx4)
        | (go_at_call_of 10 (Value.pointer (some ⟨hb, 0, none⟩)); refine (hat.out hb _ HH2.out).mono ?_; rintro e w5 ⟨ka, kc, rfl, hk5, hx5, _⟩; have HK5 := Lib.hid hk5; have HG5 := Lib.hid (HG.out.ext hx5); have HX5 := Lib.hid (HX2.out.trans hx5); clear hk5 hx5)
        | (go_at_call_of 10 (Value.pointer (some ⟨hb', 0, none⟩)); refine (hat.out hb' _ HG5.out).mono ?_; rintro e w6 ⟨ga, gc, rfl, hk6, hx6, _⟩; have HK6 := Lib.hid hk6; have HK5' := Lib.hid (HK5.out.ext hx6); have HX6 := Lib.hid (HX5.out.trans hx6); clear hk6 hx6)
        | (go_at_call 13; refine (hsame.out ka ga kc gc _ HK5'.out HK6.out).mono ?_; rintro e w7 ⟨rfl, hx7⟩; have HX7 := Lib.hid (HX6.out.trans hx7); clear hx7))
      go_ret
      exact ⟨rfl, HX7.out⟩

set_option maxRecDepth 100000 in
theorem lifted4 (os : Os) (started : os.Started) (H : Type) (enc : TypeId × Value → H) :
    ReturnsInHanded {} Try.checked os 4 .any (Rows.historyArrivesSpec.pre6 enc Try.prog Try.f4 Rows.historyArrivesRow.domain false) (Rows.historyArrivesSpec.post enc Try.prog Try.f4 false true false false) := by
  refine returnsInHanded_of_change (C := Try.checked) own started (by kernel_rfl) Try.func4
    (ChangeSpec.witness6 (enc := enc) (C := Try.checked) false ⟨#[], #[.slice none 0 0, .int .i64 0], []⟩ 8 (by kernel_rfl) (by kernel_rfl) (by kernel_rfl) (by kernel_rfl)) ?_
  intro W base args ds gs before hval0 hW hcnd _
  have hval : ∀ (j : Nat) t v, Try.f4.params[j]? = some t → args[j]? = some v → Value.okWide Try.prog W .any base t v := hval0
  have hW' := hW
  obtain ⟨p, q, hA0, hV, rfl, hfz, hnd⟩ := hW
  have hA : DataW.TrodAll enc Try.prog W 0 (fun _ => true) true Try.f4.params.toList args.toList ds p := hA0
  rw [Try.params4] at hA hval
  obtain ⟨v0, vs0, d0, ds0, p0, q0, hargs, rfl, rfl, h0, r0⟩ := trodAll_cons hA
  obtain ⟨v1, vs1, d1, ds1, p1, q1, rfl, rfl, rfl, h1, r1⟩ := trodAll_cons r0
  obtain ⟨rfl, rfl, rfl⟩ := trodAll_nil r1
  obtain rfl : args = #[v0, v1] := by cases args; simp_all
  obtain ⟨rfl, rfl⟩ := trodVars_none hV
  obtain ⟨a0, len0, cap0, rfl⟩ := okWide_slice Try.underlying22 (hval 0 22 v0 rfl rfl)
  have k0 := h0
  have lt0 : ∀ x ∈ p0, x.block < W.heap.size := by obtain ⟨m, hm⟩ := k0; exact DataW.trod_lt m _ _ _ hm
  obtain ⟨ls, hlen, hks⟩ : ∃ ks : List Kn, ks.length = len0 ∧ KSl W a0 ks := by
    obtain ⟨fuel, hf⟩ := h0
    exact open_ks hf
  have hmax : len0 ≤ 9223372036854775807 := max_len h0
  subst hlen
  obtain ⟨n1, rfl, rfl, rfl, w1⟩ := open_int Try.underlying3 (hval 1 3 v1 rfl rfl) h1
  clear hA0 hval0
  have hcall : Calls Try.prog 4 #[.slice a0 ls.length cap0, .int .i64 n1] W (BoolTrue W) := by
    by_cases hb : ls.length ≤ 60
    · exact law4 a0 cap0 ls n1 W hks hb
    · exact law_big4 a0 ls.length cap0 n1 W (by omega) hmax
  refine hcall.mono fun e W' ⟨he, bel⟩ => ?_
  subst he
  exact ⟨_, rfl, _, _, _, [], _, [], hW', trodAll_mk1 (shut_bool Try.underlying4 _), (trodAll_cons_mk (Below.trod laidOut (by kernel_rfl) (of_decide_eq_true (by kernel_rfl)) k0 bel lt0) (trodAll_cons_mk (shut_int Try.underlying3 w1) trodAll_mk0)), rfl, bel.frame _, fun h => by cases h⟩

theorem over4 : Rows.historyArrivesRow.holds Try.pinned (OpenSpec.ofChange Rows.historyArrivesSpec) :=
  OpenClaim.holds_of_wide 4 Try.f4 rfl rfl rfl rfl rfl rfl rfl ⟨rfl, rfl, rfl, rfl, rfl⟩ rfl rfl rfl rfl rfl (by kernel_rfl) Try.func4 (by kernel_rfl)
    (of_decide_eq_true (by kernel_rfl)) (by unfold Func.isWrapper; first | (rw [if_pos (by decide +kernel)]; kernel_rfl) | (rw [if_neg (by decide +kernel)]; exact ⟨rfl, rfl⟩))
    (fun os started H enc _ => lifted4 os started H enc)

/-- For every acts and day, HistoryArrives returns true. -/
theorem historyArrives_holds : Rows.HistoryArrivesSaid := over4
#print axioms historyArrives_holds
end Go.Proofs.Ytfemjcbhgfhbjaa
