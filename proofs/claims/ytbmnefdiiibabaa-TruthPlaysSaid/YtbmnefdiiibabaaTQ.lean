import Derived.Test.YtbmnefdiiibabaaTP
namespace Go.Proofs.Ytbmnefdiiibabaa
set_option linter.unusedVariables false
set_option linter.unusedSimpArgs false
open Go.RowKit Go.Maps Go.Sort Go.Shelf Go.Proofs.YtbmnefdiiibabaaW.PrintWords Go.Proofs.YtbmnefdiiibabaaW.PrintMore PTruthPlays

/-- the answer of Of, under way: the row, and each tuple, are the call's own -/
structure OfN (W : World) (base : Nat) (v : Value) (xs : List (S33 × Value)) : Prop where
  row : Kd.N (Kd.raw 2) 33 W base (fun i => base ≤ i) v (xs.map encP)
  tup : ∀ x ∈ xs, Kd.N ki 3 W base (fun i => base ≤ i ∧ v.ownBlock ≠ some i) x.2 x.1.f1
theorem OfN.below {W W' : World} {base : Nat} {v : Value} {xs : List (S33 × Value)} (h : OfN W base v xs) (hb : Below W.heap.size W W') : OfN W' base v xs :=
  ⟨Kd.N_below h.row hb, fun x hx => Kd.N_below (h.tup x hx) hb⟩

theorem P_append_step {ops : Array Oper} {o : Oper} {a : Act} {Kc : Act → World → Prop} {Q : Exit → Act → World → Prop} {W4 W : World} (base : Nat) (hgd : o.guard = none) (s x : Operand)
    (ho : o.op = .call { callee := .builtin .append, args := #[s, x], argTypes := #[39, 39] }) (v : Value) (xs : List (S33 × Value)) (p : S33 × Value)
    (hs : a.eval s = v) (hx : a.eval x = .slice (some ⟨W.heap.size, 0, none⟩) 1 1) (hO : OfN W4 base v xs) (hb4 : Below W4.heap.size W4 W) (hp : Kd.N ki 3 W W4.heap.size (fun i => W4.heap.size ≤ i) p.2 p.1.f1) (hbase : base ≤ W4.heap.size) (hl : xs.length ≤ 1000000)
    (h : ∀ A1 c1 w1, OfN w1 base (.slice A1 (xs.length + 1) c1) (xs ++ [p]) → Below base W4 w1 → Kc (a.put o.dst (.slice A1 (xs.length + 1) c1)) w1) :
    if Region.wanted o (yielded ops a.tmps) = true then Oper.wp Try.prog o a (W.alloc (.cells #[.int .i64 p.1.f0, p.2] 33)) Kc Q else Kc (a.put o.dst undef) (W.alloc (.cells #[.int .i64 p.1.f0, p.2] 33)) := by
  have h4 := hb4.size
  have hO2 := hO.below hb4
  have hvlt := Kd.N_lt hO.row
  refine Kd.N_append_step (w0 := W4) (Kd.raw 2) base (by simp [Region.wanted, hgd]) s x 39 33 (.agg #[.int .i64 0, .slice none 0 0]) 32 ho Try.underlying39 info33 rfl (by decide) (by decide) v (xs.map encP) (encP p) (encP p) (fun i => base ≤ i) (fun _ => False) hs hx
    (fun W' _ => ⟨rfl, rfl, fun u hu => ?_⟩) (fun _ h => h.elim) (fun i hi => by omega) hO2.row (hb4.mono hbase) (by omega) (by rw [List.length_map]; omega) ?_
  · simp only [encP, List.mem_cons, List.not_mem_nil, or_false] at hu
    rcases hu with rfl | rfl
    · rfl
    · exact (Kd.N_val hp).2
  · intro v1 w1 hN1 hB1 hg1 hat
    obtain ⟨A1, c1, rfl⟩ := Kd.N_slice hN1
    have e1 : (xs.map encP ++ [encP p]).length = xs.length + 1 := by simp
    rw [e1] at hN1 hat ⊢
    refine h A1 c1 w1 ⟨by rw [List.map_append]; exact hN1, fun y hy => ?_⟩ hB1
    rcases List.mem_append.1 hy with hy | hy
    · refine Kd.N_mono (Kd.N_step (Kd.N_bound (hO2.tup y hy)) (fun i hi hlt => hg1.block i hlt (fun e => hi.1.2 e.symm))) (fun i hi => ⟨hi.1.1, fun e => ?_⟩)
      rcases hat with hat | ⟨g, hg, hle⟩
      · rw [hat] at e; exact hi.1.2 e
      · rw [hg] at e; injection e with e; have := hi.2; omega
    · rw [List.mem_singleton] at hy
      subst hy
      refine Kd.N_mono (Kd.N_step (Kd.N_bound (Kd.N_lower hp hbase)) (fun i hi hlt => hg1.block i hlt (fun e => ?_))) (fun i hi => ⟨by have := hi.1; omega, fun e => ?_⟩)
      · have := hvlt i e.symm; have := hi.1; omega
      · rcases hat with hat | ⟨g, hg, hle⟩
        · rw [hat] at e; have := hvlt i e; have := hi.1; omega
        · rw [hg] at e; injection e with e; have := hi.2; omega

theorem ofN_nil (W : World) (base : Nat) : OfN W base (.slice none 0 0) [] := ⟨Kd.N_nil _ _ _ _ _, fun x hx => by cases hx⟩
theorem OfN.len {W : World} {base : Nat} {v : Value} {xs : List (S33 × Value)} (h : OfN W base v xs) : ∃ A c, v = .slice A xs.length c := by
  obtain ⟨A, c, he⟩ := Kd.N_slice h.row
  exact ⟨A, c, by rw [he, List.length_map]⟩

/-- the answer of Of -/
def OfR (W : World) (base : Nat) (v : Value) (ys : List (S33 × Value)) : Prop := (v = .slice none 0 0 ∧ ys = []) ∨ ∃ G c, v = .slice (some ⟨G, 0, none⟩) ys.length c ∧ base ≤ G ∧ ys.length ≤ c ∧ RowP W G ys ∧ ∀ y ∈ ys, Kd.N ki 3 W base (fun i => base ≤ i ∧ i ≠ G) y.2 y.1.f1

theorem OfN.cases {W : World} {base : Nat} {v : Value} {xs : List (S33 × Value)} (h : OfN W base v xs) : OfR W base v xs := by
  obtain ⟨hrow, htup⟩ := h
  obtain ⟨h0, rows, hl, ⟨hr0, inner, ⟨hi1, hi2⟩, hr⟩, hf⟩ := hrow
  rw [List.length_map] at hl
  rcases hi2 with ⟨rfl, hin⟩ | ⟨g, cap, cur, rfl, hbase, hg, h1, h2, h3, h4⟩
  · refine .inl ⟨rfl, ?_⟩
    exact List.eq_nil_of_length_eq_zero (by omega)
  · refine .inr ⟨g, cap, by rw [hl], hbase, by omega, ⟨cur, hg, fun i hi => ?_⟩, fun y hy => Kd.N_mono (htup y hy) (fun i hi => ⟨hi.1, fun e => hi.2 (by simp [Value.ownBlock, e])⟩)⟩
    have hN : Kd.N (Kd.raw 2) 33 W base (fun i => base ≤ i) (.slice (some ⟨g, 0, none⟩) rows.length cap) (xs.map encP) :=
      ⟨h0, rows, by rw [List.length_map, hl], ⟨hr0, inner, ⟨hi1, .inr ⟨g, cap, cur, rfl, hbase, hg, h1, h2, h3, h4⟩⟩, hr⟩, hf⟩
    obtain ⟨cs, hcs, hFK, hcell, _⟩ := Kd.N_elem hN [] (i : Int) (by omega) (by omega)
    have hgd : (xs.map encP).getD (i : Int).toNat [] = encP xs[i] := by simp [List.getD_eq_getElem?_getD, hi]
    rw [hgd] at hFK
    have e : cs = encP xs[i] := (Kd.FK_now hFK).1
    subst e
    have q0 := hcell 0 _ rfl
    have q1 := hcell 1 _ rfl
    rw [cell_blk hg] at q0 q1
    exact ⟨q0, q1⟩

set_option maxRecDepth 100000 in
set_option maxHeartbeats 2000000 in
theorem of_any (B M : Nat) (b : List Ent) (w : World) (ok : Nat → Prop) (k : Int) (hk : i64r k) (hB : w.heap[B]? = some (.cells #[.map (some M)] 49 (0, 0))) (hMB : MapB w ok M b) (hll : (bget b k).2.length ≤ 1000000) (htl : ∀ x ∈ (bget b k).2, x.f1.length ≤ 1000000) :
    Calls Try.prog 10 #[.pointer (some ⟨B, 0, none⟩), .int .i64 k] w fun e w' => ∃ v ys, e = .returned v ∧ OfR w' w.heap.size v ys ∧ (ys.map (·.1)).Perm (bget b k).2 ∧ (ys.map (·.1)).Pairwise (fun x y => ¬ jcmp y x < 0) ∧ Below w.heap.size w w' := by
  have hc : w.cell? ⟨B, 0, none⟩ = some (.map (some M)) := by rw [cell_blk hB]; rfl
  obtain ⟨v, hv, hrun⟩ := hMB.look hk
  obtain ⟨A, c, rfl, hcl, hF⟩ := hv
  have hl := hrun w rfl
  have hf57 := field57_1
  have HF := Lib.hid hF
  clear hF
  go_enter Try.func10, Try.ntmps10
  go_wp2_with (go_at_call 28; refine (none_any B M _ hB).mono ?_; rintro e w' ⟨rfl, rfl⟩)
  have hmax := hll
  go_loopw [4, 17] (fun vo vi W => ∃ (j : Nat) (xs : List (S33 × Value)), j ≤ (bget b k).2.length ∧ vi = .int .i64 j ∧ Hid (xs.map (·.1) = (bget b k).2.take j) ∧ OfN W w.heap.size vo xs ∧ Below w.heap.size w W) (fun vo vi _ => (bget b k).2.length - (intOf vi).toNat)
  case atStart => exact ⟨0, [], Nat.zero_le _, rfl, Lib.hid rfl, ofN_nil _ _, Below.refl _ _⟩
  case round =>
    obtain ⟨j, xs, hj, rfl, hxs, hO, hb⟩ := hrel
    by_cases hlt : j < (bget b k).2.length
    · obtain ⟨ab, ao, rfl, habl, hcs⟩ := J_addr (Kd.C_below (Kd.F_now HF.out) hb) (by omega)
      obtain ⟨A1, c1, e0, e1, l1, g1⟩ := hcs j hlt
      clear hcs
      have htj : (bget b k).2[j].f1.length ≤ 1000000 := htl _ (List.getElem_mem hlt)
      obtain ⟨w4, hw4⟩ : ∃ w4, w4 = wr.alloc (.cells #[.int .i64 (bget b k).2[j].f0, .slice A1 (bget b k).2[j].f1.length c1] 33) := ⟨_, rfl⟩
      have hb4 : Below wr.heap.size wr w4 := by rw [hw4]; exact (Below.refl _ _).alloc (Nat.le_refl _) _
      have hBx : w4.heap[wr.heap.size]? = some (.cells #[.int .i64 (bget b k).2[j].f0, .slice A1 (bget b k).2[j].f1.length c1] 33) := by rw [hw4]; exact World.alloc_heap_new wr _
      have c40 : w4.cell? ⟨wr.heap.size, 0, none⟩ = some (.int .i64 (bget b k).2[j].f0) := by rw [cell_blk hBx]; rfl
      have c41 : w4.cell? ⟨wr.heap.size, 1, none⟩ = some (.slice A1 (bget b k).2[j].f1.length c1) := by rw [cell_blk hBx]; rfl
      have hO4 : OfN w4.drew w.heap.size u4 xs := (hO.below hb4).below ((Below.refl _ _).drew)
      have hC4 : ki.C w4.drew A1 (bget b k).2[j].f1.length (bget b k).2[j].f1 := Kd.C_below g1 (hb4.drew)
      have hxl : xs.length = j := by
        have := congrArg List.length hxs.out
        simp only [List.length_map, List.length_take] at this
        omega
      have hbw : Below w.heap.size w w4.drew := (hb.trans (hb4.mono hb.size)).drew
      have hcl := cloneI_any A1 c1 (bget b k).2[j].f1 w4.drew hC4 htj
      have hlt4 : wr.heap.size < w4.heap.size := blk_lt' hBx
      have HW4 := Lib.hid hw4
      have HBx := Lib.hid hBx
      have HCL := Lib.hid hcl
      have HX := Lib.hid hxl
      clear hw4 hBx hcl hxl
      go_wp2_with fail
      rw [← HW4.out]
      go_region_law
        (first
          | (refine P_append_step (W4 := w4.drew) w.heap.size (by rfl) _ _ (by rfl) u4 xs ((bget b k).2[j], .slice A5 (bget b k).2[j].f1.length c5) (by rfl) (by rfl) hO4 hb5 hN5 hbw.size (by rw [HX.out]; omega) ?_; intro A6 c6 w6 hO6 hB6)
          | (go_simp; go_at_call 32; refine (HCL.out).mono ?_; rintro e w5 ⟨v5, rfl, hN5, hb5⟩; obtain ⟨A5, c5, rfl⟩ := Kd.N_slice hN5; have n50 : w5.cell? ⟨wr.heap.size, 0, none⟩ = some (.int .i64 (bget b k).2[j].f0) := ((bcell hb5).1 _ _ hlt4).trans c40; have n51 : w5.cell? ⟨wr.heap.size, 1, none⟩ = some (.slice A1 (bget b k).2[j].f1.length c1) := ((bcell hb5).1 _ _ hlt4).trans c41))
      all_goals
        go_wp2_with fail
        refine ⟨?rel0, ?measure⟩
        case rel0 =>
          refine ⟨j + 1, xs ++ [((bget b k).2[j], .slice A5 (bget b k).2[j].f1.length c5)], by omega, by go_num, Lib.hid ?_, hO6, hbw.trans hB6⟩
          rw [List.map_append, hxs.out, List.take_succ_eq_append_getElem hlt]; rfl
        case measure => simp [intOf]; omega
    · have hjl : j = (bget b k).2.length := by omega
      have hxs2 : xs.map (·.1) = (bget b k).2 := by rw [hxs.out, hjl, List.take_length]
      have hxl : xs.length ≤ 1000000 := by
        have := congrArg List.length hxs2
        simp only [List.length_map] at this
        omega
      rcases hO.cases with ⟨rfl, rfl⟩ | ⟨G, c3, rfl, hbase, hle, hR, hT⟩
      · have hn := sort36_none 0 wr
        have HX2 := Lib.hid hxs2
        clear hxs2 hxl
        go_wp2_with (go_at_call 36; refine hn.mono ?_; rintro e w' ⟨rfl, rfl⟩)
        go_ret
        exact ⟨_, rfl, [], .inl ⟨rfl, rfl⟩, by rw [← HX2.out], List.Pairwise.nil, hb⟩
      · have hn := sort36_any wr G c3 w.heap.size _ xs hR hT (fun i hi => hi.2) hxl
        have HN := Lib.hid hn
        have HX2 := Lib.hid hxs2
        clear hn hxs2 hjl
        go_wp2_with (go_at_call 36; refine (HN.out).mono ?_; rintro e w' ⟨rfl, ys, hperm, hsort, hR', hst⟩)
        go_ret
        have hlen := hperm.length_eq
        refine ⟨_, rfl, ys, .inr ⟨G, c3, by rw [hlen]; rfl, hbase, by omega, hR', fun y hy => Kd.N_step (hT y (hperm.mem_iff.1 hy)) (fun i hi hlt => hst.block i hlt hi.2)⟩, ?_, ?_, hb.trans (hst.to_below hb.size (fun i e => by omega))⟩
        · rw [← HX2.out]; exact hperm.map _
        · rw [List.pairwise_map]; exact hsort
end Go.Proofs.Ytbmnefdiiibabaa
