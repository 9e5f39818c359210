/-
  slices.Insert of one pointer into a slice of pointers that is the caller's own.
-/
import Derived.Test.YtfemjcbhgfhbjaaFind
import Derived.Lib.Overlaps
import Derived.Lib.AppendZerosOnto
import Derived.Laws.Externs
import Derived.Deep.RegionLaw
namespace Go.Proofs.Ytfemjcbhgfhbjaa
open Go.RowKit

section
variable {P : Program}
theorem wp_copy_runI (w : World) {o : Oper} {a : Act} {K : Act → World → Prop} {Q : Exit → Act → World → Prop} (d s : Operand) (t t' : TypeId)
    (ho : o.op = .call { callee := .builtin .copy, args := #[d, s], argTypes := #[t, t'] }) (v u : Value) (hd : a.eval d = v) (hs : a.eval s = u) {v' : Value} {w' : World}
    (hr : (Builtin.copy_ #[t, t'] o.type #[v, u]).run P w = .ok v' w') (h : K (a.put o.dst v') w') : o.wp P a w K Q := by
  unfold Oper.wp execOp
  simp only [ho, resolve, invoke, builtin, Sem.run_bind, Sem.run_pure, Result.andThen_ok, List.map_toArray, List.map_cons, List.map_nil, hd, hs, hr]
  exact h
theorem wpList_copy_runI (w : World) {ops : Array Oper} {rest : List Oper} {o : Oper} {a : Act} {Q : Exit → Act → World → Prop} (hgd : o.guard = none) (d s : Operand) (t t' : TypeId)
    (ho : o.op = .call { callee := .builtin .copy, args := #[d, s], argTypes := #[t, t'] }) (v u : Value) (hd : a.eval d = v) (hs : a.eval s = u) {v' : Value} {w' : World}
    (hr : (Builtin.copy_ #[t, t'] o.type #[v, u]).run P w = .ok v' w') (h : wpList P ops Q rest (a.put o.dst v') w') : wpList P ops Q (o :: rest) a w :=
  wpList_plain hgd fun _ hK => wp_copy_runI w d s t t' ho v u hd hs hr (hK _ _ h)
theorem step_copy_runI {ops : Array Oper} {o : Oper} {a : Act} {w : World} {K : Act → World → Prop} {Q : Exit → Act → World → Prop} {E : Prop}
    (hg : o.guard = none) (d x : Operand) (dT sT : TypeId) (hop : o.op = Op.call { callee := Callee.builtin Builtin.copy, args := #[d, x], argTypes := #[dT, sT] })
    (v u : Value) (hd : a.eval d = v) (hx : a.eval x = u) {v' : Value} {w' : World} (hr : (Builtin.copy_ #[dT, sT] o.type #[v, u]).run P w = .ok v' w') (hK : K (a.put o.dst v') w') :
    if Region.wanted o (yielded ops a.tmps) = true then Oper.wp P o a w K Q else E := by
  have hw : Region.wanted o (yielded ops a.tmps) = true := by simp [Region.wanted, hg]
  rw [if_pos hw]
  unfold Oper.wp
  simp [execOp, hop, resolve, invoke, builtin, hd, hx, hr, Result.andThen]
  exact hK
end

theorem info76 : (Try.prog.info? 76).map (fun i => (i.zero, i.size, i.bytes)) = some (some (.pointer none), 1, 8) := by kernel_rfl
theorem sz76 : (Try.prog.info? 76).map (·.size) = some 1 := by kernel_rfl

/-- What an insertion leaves: the slice with the new element; nothing else of what was there has changed. -/
def Inserted (base : Nat) (row : Option Nat) (cs : List Value) (w : World) (e : Ending) (w' : World) : Prop := ∃ v, e = .returned v ∧ w'.ownsRow base 76 1 v cs.length cs ∧ w.grownBy w' row

set_option maxRecDepth 100000 in
set_option maxHeartbeats 1000000 in
theorem insert_end (base : Nat) (sv : Value) (n : Nat) (cs : List Value) (x : Value) (vb : Nat) (w : World) (hown : w.ownsRow base 76 1 sv n cs) (hv : w.heap[vb]? = some (.cells #[x] 76 (0, 0))) (h1 : x.oneCell' = true)
    (hn : n ≤ 100000) (hb : base ≤ w.heap.size) :
    Calls Try.prog 25 #[sv, .int .i64 n, .slice (some ⟨vb, 0, none⟩) 1 1] w (Inserted base sv.ownBlock (cs ++ [x]) w) := by
  obtain ⟨i0, hi, hz0, hzs, hzb⟩ := info_parts info76
  have HO := Lib.hid hown
  have HV := Lib.hid hv
  have HI := Lib.hid hi
  have HZ := Lib.hid hz0
  have HZS := Lib.hid hzs
  have HZB := Lib.hid hzb
  have hlen : Hid (cs.length = n) := by
    show _ = _
    have := hown.1
    simpa using this
  have hform : ∃ ao cap, sv = .slice ao n cap ∧ n ≤ cap ∧ cap ≤ maxLen ∧ (ao = none → n = 0 ∧ cap = 0) ∧ ∀ a, ao = some a → ∃ g, a = ⟨g, 0, none⟩ := by
    rcases hown.2 with ⟨rfl, rfl⟩ | ⟨g, cap, cur, rfl, _, _, h2, h3, _⟩
    · exact ⟨none, 0, rfl, Nat.le_refl _, by unfold maxLen; omega, fun _ => ⟨rfl, rfl⟩, fun _ h => by cases h⟩
    · exact ⟨_, cap, rfl, h2, h3, (fun h => by cases h), (fun a h => ⟨g, (by cases h; rfl)⟩)⟩
  clear hown hv hi hz0 hzs hzb
  obtain ⟨ao, cap, rfl, hnc, hcm, hnone, hsome⟩ := hform
  unfold maxLen at hcm
  have C2 : Hid (∀ j u, [x][j]? = some u → w.cell? ((⟨vb, 0, none⟩ : Addr).add j) = some u) := by
    intro j u hu
    rw [Addr.add_mid, Nat.zero_add, cell_of_row w vb j _ _ _ HV.out]
    simpa using hu
  have C3 : Hid (∀ u ∈ [x], u.oneCell' = true) := by intro u hu; simp at hu; rw [hu]; exact h1
  have C4 : n + 1 ≤ maxLen := by unfold maxLen; omega
  have C5 : (n + 1) * 8 ≤ 140737488355328 := by omega
  have fin : ∀ v' w1, w1.ownsRow base 76 1 v' (n + 1) (cs ++ [x]) → w.grownBy w1 (Value.slice ao n cap).ownBlock → Inserted base (Value.slice ao n cap).ownBlock (cs ++ [x]) w (.returned v') w1 :=
    fun v' w1 a b => ⟨v', rfl, by simpa [hlen.out] using a, b⟩
  have FIN := Lib.hid fin
  clear fin hlen
  rcases ao with _ | a
  · obtain ⟨rfl, rfl⟩ := hnone rfl
    clear hnone hsome
    go_enter Try.func25, Try.ntmps25
    go_wp2_with (at_builtin; refine wpList_append_own _ rfl _ _ 70 rfl base 76 i0 (.pointer none) 1 8 Try.underlying70 HI.out HZ.out HZS.out HZB.out rfl (by decide) _ 0 cs rfl HO.out ⟨vb, 0, none⟩ 1 1 [x] rfl rfl C2.out C3.out C4 C5 hb ?_)
    intro v' w1 ho1 hg1 _
    have H1 := Lib.hid ho1
    have H2 := Lib.hid hg1
    clear ho1 hg1
    go_wp2_with fail
    go_ret
    exact FIN.out v' _ H1.out H2.out
  · obtain ⟨g, rfl⟩ := hsome a rfl
    clear hnone hsome
    by_cases hcap : cap = n
    · subst hcap
      go_enter Try.func25, Try.ntmps25
      go_wp2_with (at_builtin; refine wpList_append_own _ rfl _ _ 70 rfl base 76 i0 (.pointer none) 1 8 Try.underlying70 HI.out HZ.out HZS.out HZB.out rfl (by decide) _ cap cs rfl HO.out ⟨vb, 0, none⟩ 1 1 [x] rfl rfl C2.out C3.out C4 C5 hb ?_)
      intro v' w1 ho1 hg1 _
      have H1 := Lib.hid ho1
      have H2 := Lib.hid hg1
      clear ho1 hg1
      go_wp2_with fail
      go_ret
      exact FIN.out v' _ H1.out H2.out
    · go_enter Try.func25, Try.ntmps25
      go_wp2_with (at_builtin; refine wpList_append_own _ rfl _ _ 70 rfl base 76 i0 (.pointer none) 1 8 Try.underlying70 HI.out HZ.out HZS.out HZB.out rfl (by decide) _ n cs rfl HO.out ⟨vb, 0, none⟩ 1 1 [x] rfl rfl C2.out C3.out C4 C5 hb ?_)
      intro v' w1 ho1 hg1 _
      have H1 := Lib.hid ho1
      have H2 := Lib.hid hg1
      clear ho1 hg1
      go_wp2_with fail
      go_ret
      exact FIN.out v' _ H1.out H2.out
theorem shift_list (L : List Value) (i n : Nat) (x : Value) (hi : i < n) (hn : n + 1 ≤ L.length) :
    (((L.take (i + 1) ++ (L.take n).drop i ++ L.drop (i + 1 + ((L.take n).drop i).length)).take i ++ [x] ++ (L.take (i + 1) ++ (L.take n).drop i ++ L.drop (i + 1 + ((L.take n).drop i).length)).drop (i + 1))) =
      ((L.take n).take i ++ [x] ++ (L.take n).drop i) ++ L.drop (n + 1) := by
  have e1 : ((L.take n).drop i).length = n - i := by simp; omega
  have l1 : (L.take (i + 1)).length = i + 1 := by simp; omega
  have e2 : i + 1 + (n - i) = n + 1 := by omega
  rw [e1, e2]
  have a1 : (L.take (i + 1) ++ (L.take n).drop i ++ L.drop (n + 1)).take i = (L.take n).take i := by
    rw [List.append_assoc, List.take_append_of_le_length (by omega), List.take_take, List.take_take]
    congr 1
    omega
  have a2 : (L.take (i + 1) ++ (L.take n).drop i ++ L.drop (n + 1)).drop (i + 1) = (L.take n).drop i ++ L.drop (n + 1) := by
    rw [List.append_assoc, List.drop_append, List.drop_eq_nil_of_le (by omega), l1]
    simp
  rw [a1, a2]
  simp

/-- x at place i. -/
def insAt {α : Type} (l : List α) (i : Nat) (x : α) : List α := l.take i ++ [x] ++ l.drop i
theorem insAt_len {α : Type} (l : List α) (i : Nat) (x : α) (h : i ≤ l.length) : (insAt l i x).length = l.length + 1 := by simp [insAt]; omega

set_option maxRecDepth 100000 in
set_option maxHeartbeats 2000000 in
theorem insert_shift (base g n cap i : Nat) (cur : Array Value) (x : Value) (vb : Nat) (w : World) (hg : w.heap[g]? = some (.cells cur 76 (0, 0))) (hbg : base ≤ g) (hcs : cur.size = cap) (hcm : cap ≤ maxLen) (hi : i < n) (hroom : n + 1 ≤ cap)
    (hn : n ≤ 100000) (hv : w.heap[vb]? = some (.cells #[x] 76 (0, 0))) (hvb : vb ≠ g) (h1 : x.oneCell' = true) (h1s : ∀ v ∈ cur.toList.take n, v.oneCell' = true) :
    Calls Try.prog 25 #[.slice (some ⟨g, 0, none⟩) n cap, .int .i64 i, .slice (some ⟨vb, 0, none⟩) 1 1] w (Inserted base (some g) (insAt (cur.toList.take n) i x) w) := by
  unfold maxLen at hcm
  have hov : ∀ lb cb, (callFunc 28 #[.slice (some ⟨vb, 0, none⟩) 1 1, .slice (some ⟨g, i + 1, none⟩) lb cb]).run Try.prog w = .ok (.value (.bool false)) w := fun lb cb => by
    rw [run_callFunc_extern Try.func28 (by kernel_rfl) (by kernel_rfl) (by kernel_rfl) (e := Extern.SlicesOverlaps.overlaps #[70, 70] #[4]) (by kernel_rfl),
      Lib.run_overlaps_apart w 70 4 76 Try.underlying70 1 (fun w => by
        have h := sz76
        cases hq : Try.prog.info? 76 with
        | none => rw [hq] at h; cases h
        | some i0 => rw [hq] at h; simp only [Option.map_some, Option.some.injEq] at h; simp [sizeOf, typeInfo, hq, h]) ⟨vb, 0, none⟩ ⟨g, i + 1, none⟩ 1 1 lb cb hvb 76 76 1 cap (by simp [World.shape?, hv]) (by simp [World.shape?, hg, hcs]) (by omega)
        (frozen_of_row w vb 0 _ _ hv) (frozen_of_row w vb 1 _ _ hv)]
    rfl
  have hl1 : ((cur.toList.take n).drop i).length = n - i := by simp; omega
  obtain ⟨R1, hR1⟩ : ∃ R : List Value, R = cur.toList.take (i + 1) ++ (cur.toList.take n).drop i ++ cur.toList.drop (i + 1 + ((cur.toList.take n).drop i).length) := ⟨_, rfl⟩
  have hR1l : R1.length = cap := by rw [hR1]; simp; omega
  have hcp1 : ∀ ty dc sc, (Builtin.copy_ #[70, 70] ty #[.slice (some ⟨g, i + 1, none⟩) (n - i) dc, .slice (some ⟨g, i, none⟩) (n + 1 - i) sc]).run Try.prog w.drew = .ok (goInt ((cur.toList.take n).drop i).length) (w.drew.setRow g R1.toArray) := fun ty dc sc => by
    rw [hR1]
    exact run_copy_row Try.prog w.drew 70 70 ty 76 g (i + 1) (n - i) dc ⟨g, i, none⟩ (n + 1 - i) sc cur 76 ((cur.toList.take n).drop i) Try.underlying70 sz76 hg (by rw [hl1]; simp only [Nat.min_def]; split <;> omega)
      (fun j v hj => by
        rw [Addr.add_mid, cell_of_row w.drew g _ cur _ _ hg]
        rw [List.getElem?_drop, List.getElem?_take] at hj
        split at hj
        · simpa using hj
        · cases hj) (by rw [hl1]; omega) (fun v hv' => h1s v (List.mem_of_mem_drop hv'))
  obtain ⟨W1, hW1⟩ : ∃ W1, W1 = w.drew.setRow g R1.toArray := ⟨_, rfl⟩
  have hg1 : W1.heap[g]? = some (.cells R1.toArray 76 (0, 0)) := by rw [hW1]; exact setRow_heap w.drew g cur _ 76 _ hg
  have hv1 : W1.heap[vb]? = some (.cells #[x] 76 (0, 0)) := by rw [hW1, setRow_other _ _ _ _ hvb]; exact hv
  obtain ⟨R2, hR2⟩ : ∃ R : List Value, R = R1.take i ++ [x] ++ R1.drop (i + 1) := ⟨_, rfl⟩
  have hcp2 : ∀ ty dc, (Builtin.copy_ #[70, 70] ty #[.slice (some ⟨g, i, none⟩) (n + 1 - i) dc, .slice (some ⟨vb, 0, none⟩) 1 1]).run Try.prog W1 = .ok (goInt 1) (W1.setRow g R2.toArray) := fun ty dc => by
    rw [hR2]
    exact run_copy_row Try.prog W1 70 70 ty 76 g i (n + 1 - i) dc ⟨vb, 0, none⟩ 1 1 R1.toArray 76 [x] Try.underlying70 sz76 hg1 (by simp only [Nat.min_def, List.length_singleton]; split <;> omega)
      (fun j v hj => by
        rw [Addr.add_mid, Nat.zero_add, cell_of_row W1 vb _ _ _ _ hv1]
        simpa using hj) (by simp; omega) (by intro u hu; simp at hu; rw [hu]; exact h1)
  have hR2e : R2 = (insAt (cur.toList.take n) i x) ++ cur.toList.drop (n + 1) := by
    rw [hR2, hR1]
    exact shift_list cur.toList i n x hi (by simp; omega)
  have hlast : (insAt (cur.toList.take n) i x).length = n + 1 := by rw [insAt_len _ _ _ (by simp; omega)]; simp; omega
  have fin : Inserted base (some g) (insAt (cur.toList.take n) i x) w (.returned (.slice (some ⟨g, 0, none⟩) (n + 1) cap)) (W1.setRow g R2.toArray) := by
    refine ⟨_, rfl, ⟨by rw [Nat.mul_one], .inr ⟨g, cap, R2.toArray, by rw [hlast], hbg, setRow_heap W1 g _ _ 76 _ hg1, by rw [hlast]; exact hroom, by unfold maxLen; omega, ?_, ?_⟩⟩, ⟨?_, ?_, ?_, ?_, ?_⟩⟩
    · rw [List.size_toArray, hR2]; simp; omega
    · rw [hR2e, Nat.mul_one]; exact List.take_left
    · rw [hW1]; rfl
    · rw [hW1]; rfl
    · rw [hW1]; rfl
    · rw [hW1]; simp
    · intro k _ hk
      have hk' : k ≠ g := fun e => hk (by rw [e])
      rw [setRow_other _ _ _ _ hk', hW1, setRow_other _ _ _ _ hk']
      rfl
  have FIN := Lib.hid fin
  rw [← hW1] at hcp1
  have hw1 : IntKind.i64.wrap ((i : Int) + 1) = (i : Int) + 1 := by rw [IntKind.wrap_i64]; omega
  have hb1 : (0 : Int) ≤ (i : Int) + 1 := by omega
  have hin : i ≤ n := by omega
  have htn : ((i : Int) + 1).toNat = i + 1 := by omega
  have hb2 : ¬ (cap = i + 1) := by omega
  have hb3 : (i : Int) ≤ (n : Int) + 1 := by omega
  have hb4 : ¬ (cap = i) := by omega
  have hz2 : ¬ ((i : Int) = (n : Int)) := by omega
  clear fin hR2e hlast hR2 hR1 hR1l hl1 hg1 hv1 hW1 hg hv hvb h1 h1s hcs
  go_enter Try.func25, Try.ntmps25
  go_wp2_with (simp only [hov])
  go_region_law (refine step_copy_runI rfl _ _ 70 70 rfl _ _ (by simp [Act.eval, Act.put]) (by simp [Act.eval, Act.put]) (hcp1 _ _ _) ?_)
  go_wp2_with (at_builtin; refine wpList_copy_runI _ rfl _ _ 70 70 rfl _ _ rfl rfl (hcp2 _ _) ?_)
  go_ret
  exact FIN.out
theorem grow_list (A : List Value) (Z cs : List Value) (i n : Nat) (x : Value) (hc : cs.length = n) (hi : i < n) (hA : A = cs.take i ++ Z) :
    ((A.take i ++ [x] ++ A.drop (i + 1)).take (i + 1) ++ cs.drop i ++ (A.take i ++ [x] ++ A.drop (i + 1)).drop (i + 1 + (cs.drop i).length)) = insAt cs i x ++ Z.drop (n + 1 - i) := by
  have l1 : (cs.take i).length = i := by simp; omega
  have e1 : A.take i = cs.take i := by rw [hA, List.take_append_of_le_length (by omega), List.take_take]; simp
  have e2 : A.drop (i + 1) = Z.drop 1 := by
    rw [hA, List.drop_append, List.drop_eq_nil_of_le (by omega), l1]
    simp
  rw [e1, e2]
  have l2 : (cs.take i ++ [x]).length = i + 1 := by simp; omega
  have e3 : (cs.take i ++ [x] ++ Z.drop 1).take (i + 1) = cs.take i ++ [x] := by
    rw [List.take_append_of_le_length (by omega), List.take_of_length_le (by omega)]
  have e4 : (cs.take i ++ [x] ++ Z.drop 1).drop (i + 1 + (cs.drop i).length) = Z.drop (n + 1 - i) := by
    rw [List.drop_append, List.drop_eq_nil_of_le (by omega), l2, List.nil_append, List.drop_drop]
    congr 1
    simp
    omega
  rw [e3, e4]
  rfl

set_option maxRecDepth 100000 in
set_option maxHeartbeats 2000000 in
theorem insert_grow (base g n cap i : Nat) (cur : Array Value) (x : Value) (vb : Nat) (w : World) (hg : w.heap[g]? = some (.cells cur 76 (0, 0))) (hbs : base ≤ w.heap.size) (hcs : cur.size = cap) (hnc : n ≤ cap) (hcm : cap ≤ maxLen) (hi : i < n) (hroom : cap < n + 1)
    (hn : n ≤ 100000) (hv : w.heap[vb]? = some (.cells #[x] 76 (0, 0))) (h1 : x.oneCell' = true) (h1s : ∀ v ∈ cur.toList.take n, v.oneCell' = true) :
    Calls Try.prog 25 #[.slice (some ⟨g, 0, none⟩) n cap, .int .i64 i, .slice (some ⟨vb, 0, none⟩) 1 1] w (Inserted base (some g) (insAt (cur.toList.take n) i x) w) := by
  unfold maxLen at hcm
  obtain ⟨cs, hcse⟩ : ∃ cs, cs = cur.toList.take n := ⟨_, rfl⟩
  rw [← hcse] at h1s ⊢
  have hcl : cs.length = n := by rw [hcse]; simp; omega
  have hcell : ∀ j v, cs[j]? = some v → w.cell? ⟨g, j, none⟩ = some v := fun j v hj => by
    rw [hcse, List.getElem?_take] at hj
    rw [cell_of_row w g j cur _ _ hg]
    split at hj
    · simpa using hj
    · cases hj
  have hgw := block_lt hg
  have hvw := block_lt hv
  obtain ⟨i0, hi0, hz0, hzs, hzb⟩ := info_parts info76
  have hkk : (n : Int) + 1 - (i : Int) = ((n + 1 - i : Nat) : Int) := by omega
  have hik : i + (n + 1 - i) = n + 1 := by omega
  have hold : (Builtin.firstCells i0.size i (.slice (some ⟨g, 0, none⟩) i cap)).run Try.prog w.drew = .ok (cs.take i).toArray w.drew := by
    rw [hzs]
    exact run_firstCells_some w.drew 1 i ⟨g, 0, none⟩ i cap (cs.take i) (by rw [List.length_take]; omega) (fun j v hj => by
      rw [Addr.add_mid, Nat.zero_add]
      rw [List.getElem?_take] at hj
      split at hj
      · exact hcell j v hj
      · cases hj)
  obtain ⟨G, hG⟩ : ∃ G, G = grownCap w (n + 1) cap 76 := ⟨_, rfl⟩
  obtain ⟨Z, hZ⟩ : ∃ Z : List Value, Z = (Builtin.zeroCells (Value.pointer none).cells (n + 1 - i) ++ Builtin.zeroCells (Value.pointer none).cells (G - (n + 1))).toList := ⟨_, rfl⟩
  obtain ⟨A, hA⟩ : ∃ A : List Value, A = cs.take i ++ Z := ⟨_, rfl⟩
  have hZl : Z.length = n + 1 - i + (G - (n + 1)) := by rw [hZ]; simp [Builtin.zeroCells, Value.cells]
  have hGn : n + 1 ≤ G := by rw [hG]; exact grownCap_ge w _ _ _
  have hG63 : G ≤ 9223372036854775807 := by
    have := grownCap_le_maxLen w (n + 1) cap 76 (by unfold maxLen; omega)
    rw [← hG] at this
    unfold maxLen at this
    omega
  have hAl : A.length = G := by rw [hA]; simp; omega
  have hrz : ∀ ty, (Builtin.append_ #[70, 3] ty #[.slice (some ⟨g, 0, none⟩) i cap, .int .i64 ((n : Int) + 1 - (i : Int))]).run Try.prog w =
      .ok (.slice (some ⟨w.heap.size, 0, none⟩) (n + 1) G) (w.drew.alloc (.cells A.toArray 76)) := fun ty => by
    have h := Lib.run_append_grow_zeros w 70 3 ty 76 i0 _ .i64 .i64 Try.underlying70 Try.underlying3 hi0 hz0 (some ⟨g, 0, none⟩) i cap (cs.take i) hold (n + 1 - i) (by omega) (by omega) (by omega) (by omega) (by rw [hzb]; omega) (by rw [hzb, hik]; exact growslice_fits hroom (by omega))
    rw [hik, ← hG] at h
    have e : (cs.take i).toArray ++ Builtin.zeroCells (Value.pointer none).cells (n + 1 - i) ++ Builtin.zeroCells (Value.pointer none).cells (G - (n + 1)) = A.toArray := by
      apply Array.toList_inj.1
      rw [hA, hZ]
      simp
    rw [hkk, h, e]
  obtain ⟨W1, hW1⟩ : ∃ W1, W1 = w.drew.alloc (.cells A.toArray 76) := ⟨_, rfl⟩
  have hN1 : W1.heap[w.heap.size]? = some (.cells A.toArray 76 (0, 0)) := by rw [hW1]; exact heap_alloc_last w.drew _
  have hO1 : ∀ k, k < w.heap.size → W1.heap[k]? = w.heap[k]? := fun k hk => by rw [hW1]; exact Below.heap_alloc w.drew _ k hk
  obtain ⟨R1, hR1⟩ : ∃ R : List Value, R = A.take i ++ [x] ++ A.drop (i + 1) := ⟨_, rfl⟩
  have hR1l : R1.length = G := by rw [hR1]; simp; omega
  have hcpA : ∀ ty dc, (Builtin.copy_ #[70, 70] ty #[.slice (some ⟨w.heap.size, i, none⟩) (n + 1 - i) dc, .slice (some ⟨vb, 0, none⟩) 1 1]).run Try.prog W1 = .ok (goInt 1) (W1.setRow w.heap.size R1.toArray) := fun ty dc => by
    rw [hR1]
    exact run_copy_row Try.prog W1 70 70 ty 76 w.heap.size i (n + 1 - i) dc ⟨vb, 0, none⟩ 1 1 A.toArray 76 [x] Try.underlying70 sz76 hN1 (by simp only [Nat.min_def, List.length_singleton]; split <;> omega)
      (fun j v hj => by
        rw [Addr.add_mid, Nat.zero_add, cell_of_row W1 vb _ _ _ _ ((hO1 vb hvw).trans hv)]
        simpa using hj) (by simp; omega) (by intro u hu; simp at hu; rw [hu]; exact h1)
  obtain ⟨W2, hW2⟩ : ∃ W2, W2 = (W1.setRow w.heap.size R1.toArray).drew := ⟨_, rfl⟩
  have hN2 : W2.heap[w.heap.size]? = some (.cells R1.toArray 76 (0, 0)) := by rw [hW2]; exact setRow_heap W1 _ _ _ 76 _ hN1
  have hO2 : ∀ k, k < w.heap.size → W2.heap[k]? = w.heap[k]? := fun k hk => by rw [hW2]; exact (setRow_other W1 _ _ _ (by omega)).trans (hO1 k hk)
  obtain ⟨R2, hR2⟩ : ∃ R : List Value, R = R1.take (i + 1) ++ cs.drop i ++ R1.drop (i + 1 + (cs.drop i).length) := ⟨_, rfl⟩
  have hdl : (cs.drop i).length = n - i := by rw [List.length_drop, hcl]
  have hcpB : ∀ ty dc sc, (Builtin.copy_ #[70, 70] ty #[.slice (some ⟨w.heap.size, i + 1, none⟩) (n - i) dc, .slice (some ⟨g, i, none⟩) (n - i) sc]).run Try.prog W2 = .ok (goInt (cs.drop i).length) (W2.setRow w.heap.size R2.toArray) := fun ty dc sc => by
    rw [hR2]
    exact run_copy_row Try.prog W2 70 70 ty 76 w.heap.size (i + 1) (n - i) dc ⟨g, i, none⟩ (n - i) sc R1.toArray 76 (cs.drop i) Try.underlying70 sz76 hN2 (by rw [hdl]; simp only [Nat.min_def]; split <;> omega)
      (fun j v hj => by
        rw [Addr.add_mid, World.cell?_of_block (w := w) (hO2 g hgw)]
        exact hcell (i + j) v (by rwa [List.getElem?_drop] at hj)) (by rw [hdl]; simp; omega) (fun v hv' => h1s v (List.mem_of_mem_drop hv'))
  have hR2e : R2 = insAt cs i x ++ Z.drop (n + 1 - i) := by
    rw [hR2, hR1]
    exact grow_list A Z cs i n x hcl hi hA
  have hlast : (insAt cs i x).length = n + 1 := by rw [insAt_len _ _ _ (by omega), hcl]
  have fin : Inserted base (some g) (insAt cs i x) w (.returned (.slice (some ⟨w.heap.size, 0, none⟩) (n + 1) G)) (W2.setRow w.heap.size R2.toArray) := by
    refine ⟨_, rfl, ⟨by rw [Nat.mul_one], .inr ⟨w.heap.size, G, R2.toArray, by rw [hlast], hbs, setRow_heap W2 _ _ _ 76 _ hN2, by rw [hlast]; exact hGn, by unfold maxLen; omega, ?_, ?_⟩⟩, ⟨?_, ?_, ?_, ?_, ?_⟩⟩
    · rw [List.size_toArray, hR2]; simp; omega
    · rw [hR2e, Nat.mul_one]; exact List.take_left
    · rw [hW2, hW1]; rfl
    · rw [hW2, hW1]; rfl
    · rw [hW2, hW1]; rfl
    · rw [hW2, hW1]; simp
    · intro k hk _
      rw [setRow_other _ _ _ _ (by omega)]
      exact hO2 k hk
  have FIN := Lib.hid fin
  have hw1 : IntKind.i64.wrap ((i : Int) + 1) = (i : Int) + 1 := by rw [IntKind.wrap_i64]; omega
  have hb1 : (0 : Int) ≤ (i : Int) + 1 := by omega
  have hin : i ≤ n := by omega
  have htn : ((i : Int) + 1).toNat = i + 1 := by omega
  have hGi : ¬ (G = i) := by omega
  have hGim : ¬ (G = i + 1) := by omega
  have hci : ¬ (cap = i) := by omega
  have hb3 : (i : Int) ≤ (n : Int) := by omega
  have hz2 : ¬ ((i : Int) = (n : Int)) := by omega
  have hz3 : (cap : Int) < (n : Int) + 1 := by omega
  clear fin hR2e hlast hR2 hR1 hR1l hdl hN1 hN2 hO1 hO2 hg hv h1 h1s hcs hkk hik hold hZ hA hZl hAl hcell hcl hcse hi0 hz0 hzs hzb hG
  subst hW1
  subst hW2
  have hrz' : ∀ ty, (Builtin.append_ #[70, 3] ty #[.slice (some ⟨g, 0, none⟩) i cap, .int .i64 ((n : Int) + 1 - (i : Int))]).run Try.prog w =
      .ok (.slice (some ⟨w.heap.size, 0, none⟩) (n + 1) G) (w.alloc (.cells A.toArray 76)).drew := hrz
  have hcpA' : ∀ ty dc, (Builtin.copy_ #[70, 70] ty #[.slice (some ⟨w.heap.size, i, none⟩) (n + 1 - i) dc, .slice (some ⟨vb, 0, none⟩) 1 1]).run Try.prog (w.alloc (.cells A.toArray 76)).drew = .ok (goInt 1) ((w.alloc (.cells A.toArray 76)).drew.setRow w.heap.size R1.toArray) := hcpA
  have hcpB' : ∀ ty dc sc, (Builtin.copy_ #[70, 70] ty #[.slice (some ⟨w.heap.size, i + 1, none⟩) (n - i) dc, .slice (some ⟨g, i, none⟩) (n - i) sc]).run Try.prog ((w.alloc (.cells A.toArray 76)).drew.setRow w.heap.size R1.toArray).drew = .ok (goInt (cs.drop i).length) (((w.alloc (.cells A.toArray 76)).drew.setRow w.heap.size R1.toArray).drew.setRow w.heap.size R2.toArray) := hcpB
  clear hrz hcpA hcpB
  go_enter Try.func25, Try.ntmps25
  go_wp2_with (first
    | (at_builtin; refine Lib.wpList_append_run _ rfl _ _ _ _ rfl _ _ rfl rfl _ _ (hrz' _) ?_)
    | (at_builtin; refine wpList_copy_runI _ rfl _ _ 70 70 rfl _ _ rfl rfl (hcpA' _ _) ?_))
  go_region_law (refine step_copy_runI rfl _ _ 70 70 rfl _ _ (by simp [Act.eval, Act.put]) (by simp [Act.eval, Act.put]) (hcpB' _ _ _) ?_)
  go_wp2_with fail
  go_ret
  exact FIN.out
end Go.Proofs.Ytfemjcbhgfhbjaa
