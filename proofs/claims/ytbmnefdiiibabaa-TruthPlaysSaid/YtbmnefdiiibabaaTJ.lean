import Derived.Test.YtbmnefdiiibabaaTI
import Derived.Deep.DeepCutAuto
namespace Go.Proofs.Ytbmnefdiiibabaa
set_option linter.unusedVariables false
set_option linter.unusedSimpArgs false
open Go.RowKit Go.Maps Go.Sort Go.Shelf Go.Proofs.YtbmnefdiiibabaaW.PrintWords Go.Proofs.YtbmnefdiiibabaaW.PrintMore PTruthPlays

/-- append(v, j), j in a block of its own: inside a region -/
theorem J_append_step {ops : Array Oper} {o : Oper} {a : Act} {Kc : Act → World → Prop} {Q : Exit → Act → World → Prop} {w0 W : World} (blk base : Nat) (hgd : o.guard = none) (s x : Operand)
    (ho : o.op = .call { callee := .builtin .append, args := #[s, x], argTypes := #[39, 39] }) (v : Value) (l : List S33) (j : S33) (A3 : Option Addr) (c3 : Nat) (ok okt : Nat → Prop)
    (hs : a.eval s = v) (hx : a.eval x = .slice (some ⟨blk, 0, none⟩) 1 1) (hN : Kd.N k33 33 W base ok v l) (hT : W.heap[blk]? = some (.cells #[.int .i64 j.f0, .slice A3 j.f1.length c3] 33 (0, 0))) (hc : j.f1.length ≤ c3)
    (hFj : Kd.F ki W okt A3 j.f1.length j.f1) (hne : some blk ≠ v.ownBlock) (hblk : ok blk) (hokt : ∀ i, okt i → ok i ∧ some i ≠ v.ownBlock) (hfresh : ∀ i, W.heap.size ≤ i → ok i) (HB : Below base w0 W) (hbase : base ≤ W.heap.size) (hl : l.length ≤ 1000000)
    (h : ∀ A1 c1 w1, Kd.N k33 33 w1 base ok (.slice A1 (l ++ [j]).length c1) (l ++ [j]) → Below base w0 w1 → W.grownBy w1 v.ownBlock → (l ++ [j]).length ≤ c1 → Kc (a.put o.dst (.slice A1 (l ++ [j]).length c1)) w1) :
    if Region.wanted o (yielded ops a.tmps) = true then Oper.wp Try.prog o a W Kc Q else Kc (a.put o.dst undef) W := by
  refine Kd.N_append_rows_step k33 base (by simp [Region.wanted, hgd]) s x 39 33 (.agg #[.int .i64 0, .slice none 0 0]) 32 ho Try.underlying39 info33 rfl (by decide) (by decide) v l [j] (some ⟨blk, 0, none⟩) 1 1 ok (fun i => i = blk ∨ okt i) hs hx hN
    (F_one (okt := okt) hT hc hFj (.inl rfl) (fun _ h => .inr h)) (fun i hi => hi.elim (fun e => by subst e; exact ⟨hblk, hne⟩) (hokt i)) hfresh HB hbase (by omega) ?_
  intro v1 w1 hN1 hB1 hg1 _
  obtain ⟨A1, c1, rfl⟩ := Kd.N_slice hN1
  exact h A1 c1 w1 hN1 hB1 hg1 (Kd.N_reads' hN1).2.1

/-- what the book's new row may lead to -/
def okJ (ok : Nat → Prop) (B0 : Nat) : Nat → Prop := fun i => ok i ∨ (B0 ≤ i ∧ i ≠ B0 + 1)

/-- the two orders: the one justification is laid behind the clone -/
theorem J_app1 {ops : Array Oper} {o : Oper} {a : Act} {Kc : Act → World → Prop} {Q : Exit → Act → World → Prop} {w4 W1 w5 : World} (B0 B2 : Nat) (hgd : o.guard = none) (s x : Operand)
    (ho : o.op = .call { callee := .builtin .append, args := #[s, x], argTypes := #[39, 39] }) (v : Value) (l : List S33) (j : S33) (A3 : Option Addr) (c3 : Nat) (ok : Nat → Prop)
    (hW1 : Below w4.heap.size w4 W1) (hb5 : Below W1.heap.size W1 w5) (hN5 : Kd.N k33 33 w5 W1.heap.size (fun i => ok i ∨ W1.heap.size ≤ i) v l) (hFj : Kd.F ki w4 (fun i => B2 ≤ i) A3 j.f1.length j.f1) (hc : j.f1.length ≤ c3) (h02 : B0 + 1 < B2) (h24 : B2 ≤ w4.heap.size) (hl : l.length ≤ 1000000)
    (hs : a.eval s = v) (hx : a.eval x = .slice (some ⟨w5.heap.size, 0, none⟩) 1 1)
    (h : ∀ A1 c1 w1, Kd.N k33 33 w1 w4.heap.size (okJ ok B0) (.slice A1 (l ++ [j]).length c1) (l ++ [j]) → Below w4.heap.size w4 w1 → (l ++ [j]).length ≤ c1 → Kc (a.put o.dst (.slice A1 (l ++ [j]).length c1)) w1) :
    if Region.wanted o (yielded ops a.tmps) = true then Oper.wp Try.prog o a (w5.alloc (.cells #[.int .i64 j.f0, .slice A3 j.f1.length c3] 33)) Kc Q else Kc (a.put o.dst undef) (w5.alloc (.cells #[.int .i64 j.f0, .slice A3 j.f1.length c3] 33)) := by
  have hs1 := hW1.size
  have hs5 := hb5.size
  have hb45 : Below w4.heap.size w4 w5 := hW1.trans (hb5.mono hW1.size)
  have hb46 : Below w4.heap.size w4 (w5.alloc (.cells #[.int .i64 j.f0, .slice A3 j.f1.length c3] 33)) := hb45.alloc (by omega) _
  have hbase := Kd.N_base hN5
  have hlt := Kd.N_lt hN5
  refine J_append_step (w0 := w4) w5.heap.size w4.heap.size hgd s x ho v l j A3 c3 (okJ ok B0) (fun i => B2 ≤ i ∧ i < w4.heap.size) hs hx
    (Kd.N_alloc (Kd.N_mono (Kd.N_lower hN5 hs1) (fun i hi => hi.elim .inl (fun h => .inr ⟨by omega, by omega⟩))) _) (World.alloc_heap_new w5 _) hc (Kd.F_below (Kd.F_bound hFj) hb46)
    (fun e => by have := hlt _ e.symm; omega) (.inr ⟨by omega, by omega⟩) (fun i hi => ⟨.inr ⟨by omega, by omega⟩, fun e => by have := hbase _ e.symm; omega⟩) (fun i hi => .inr (by simp at hi; exact ⟨by omega, by omega⟩)) hb46 (by simp; omega) hl ?_
  intro A1 c1 w1 hN1 hB1 _ hc1
  exact h A1 c1 w1 hN1 hB1 hc1

/-- .. ahead of it -/
theorem J_app2 {ops : Array Oper} {o : Oper} {a : Act} {Kc : Act → World → Prop} {Q : Exit → Act → World → Prop} {w4 W1 w5 : World} (B0 B2 : Nat) (hgd : o.guard = none) (s x : Operand)
    (ho : o.op = .call { callee := .builtin .append, args := #[s, x], argTypes := #[39, 39] }) (v : Value) (l : List S33) (j : S33) (A3 : Option Addr) (c3 : Nat) (ok : Nat → Prop)
    (hW1 : Below w4.heap.size w4 W1) (hT : W1.heap[w4.heap.size]? = some (.cells #[.int .i64 j.f0, .slice A3 j.f1.length c3] 33 (0, 0))) (hb5 : Below W1.heap.size W1 w5) (hN5 : Kd.N k33 33 w5 W1.heap.size (fun i => ok i ∨ W1.heap.size ≤ i) v l) (hFj : Kd.F ki w4 (fun i => B2 ≤ i) A3 j.f1.length j.f1) (hc : j.f1.length ≤ c3) (h02 : B0 + 1 < B2) (h24 : B2 ≤ w4.heap.size) (hl : l.length ≤ 1000000)
    (hs : a.eval s = v) (hx : a.eval x = .slice (some ⟨w4.heap.size, 0, none⟩) 1 1)
    (h : ∀ A1 c1 w1, Kd.N k33 33 w1 w4.heap.size (okJ ok B0) (.slice A1 (l ++ [j]).length c1) (l ++ [j]) → Below w4.heap.size w4 w1 → (l ++ [j]).length ≤ c1 → Kc (a.put o.dst (.slice A1 (l ++ [j]).length c1)) w1) :
    if Region.wanted o (yielded ops a.tmps) = true then Oper.wp Try.prog o a w5 Kc Q else Kc (a.put o.dst undef) w5 := by
  have hs1 := hW1.size
  have hs5 := hb5.size
  have hTl := blk_lt' hT
  have hb45 : Below w4.heap.size w4 w5 := hW1.trans (hb5.mono hW1.size)
  have hbase := Kd.N_base hN5
  have hlt := Kd.N_lt hN5
  refine J_append_step (w0 := w4) w4.heap.size w4.heap.size hgd s x ho v l j A3 c3 (okJ ok B0) (fun i => B2 ≤ i ∧ i < w4.heap.size) hs hx
    (Kd.N_mono (Kd.N_lower hN5 hs1) (fun i hi => hi.elim .inl (fun h => .inr ⟨by omega, by omega⟩))) ((hb5.block _ hTl).trans hT) hc (Kd.F_below (Kd.F_bound hFj) hb45)
    (fun e => by have := hbase _ e.symm; omega) (.inr ⟨by omega, by omega⟩) (fun i hi => ⟨.inr ⟨by omega, by omega⟩, fun e => by have := hbase _ e.symm; omega⟩) (fun i hi => .inr ⟨by omega, by omega⟩) hb45 (by omega) hl ?_
  intro A1 c1 w1 hN1 hB1 _ hc1
  exact h A1 c1 w1 hN1 hB1 hc1

def bjust (b : List Ent) (k : Int) (j : S33) : List Ent × Bool :=
  let s := bget b k
  if s.2.any (fun x => jeq x j) then (bput b k s, false) else (bput b k (s.1, s.2 ++ [j]), true)

set_option maxRecDepth 100000 in
set_option maxHeartbeats 1000000 in
theorem justify_no (B M : Nat) (b : List Ent) (w : World) (ok : Nat → Prop) (k : Int) (hk : i64r k) (j : S33) (Aj : Option Addr) (cj : Nat) (hB : w.heap[B]? = some (.cells #[.map (some M)] 49 (0, 0))) (hMB : MapB w ok M b) (hM : ¬ ok M) (hlen : b.length < 1000000)
    (hj : ki.C w Aj j.f1.length j.f1) (hany : (bget b k).2.any (fun x => jeq x j) = true) :
    Calls Try.prog 19 #[.pointer (some ⟨B, 0, none⟩), .int .i64 k, .agg #[.int .i64 j.f0, .slice Aj j.f1.length cj]] w fun e w' => e = .returned (.bool false) ∧ MapB w' ok M (bput b k (bget b k)) ∧ Stp (· = M) w w' := by
  obtain ⟨v, hv, hrun⟩ := hMB.look hk
  obtain ⟨A, c, rfl, hcl, hF⟩ := hv
  have hMl : M < w.heap.size := by obtain ⟨l, hown, _⟩ := hMB.ex; exact hown.lt
  -- the worlds
  obtain ⟨X, hX⟩ : ∃ X, X = Obj.cells #[.int .i64 j.f0, .slice Aj j.f1.length cj] 33 (0, 0) := ⟨_, rfl⟩
  obtain ⟨Y, hY⟩ : ∃ Y, Y = Obj.cells #[.bool (bget b k).1, .slice A (bget b k).2.length c] 57 (0, 0) := ⟨_, rfl⟩
  have hB1 := heap_alloc_lt w X hB
  have hc1 : (w.alloc X).cell? ⟨B, 0, none⟩ = some (.map (some M)) := by rw [cell_blk hB1]; rfl
  have hl := hrun (w.alloc X) (Below.heap_alloc w X M hMl)
  have hBb : Below w.heap.size w ((w.alloc X).alloc Y) := ((Below.refl _ _).alloc (Nat.le_refl _) _).alloc (by simp) _
  have hJ : ((w.alloc X).alloc Y).heap[w.heap.size]? = some (.cells #[.int .i64 j.f0, .slice Aj j.f1.length cj] 33 (0, 0)) := by
    rw [← hX]; exact heap_alloc_lt _ _ (World.alloc_heap_new w X)
  have hS : ((w.alloc X).alloc Y).heap[w.heap.size + 1]? = some Y := by
    have := World.alloc_heap_new (w.alloc X) Y
    simpa using this
  have hcon := containsJ_any 46 (.pointer (some ⟨w.heap.size, 0, none⟩)) (fun x => jeq x j) enters46 A c (bget b k).2 ((w.alloc X).alloc Y) (Kd.C_below (Kd.F_now hF) hBb) (pred46 j Aj cj w.heap.size _ _ hJ (Kd.C_below hj hBb))
  rw [hany] at hcon
  have HCON := Lib.hid hcon
  have HX := Lib.hid hX
  have HY := Lib.hid hY
  have HJ := Lib.hid hJ
  have HS := Lib.hid hS
  have HA := Lib.hid hany
  clear hcon hJ hS hany hMl
  rw [hX] at hB1 hc1 hl
  rw [hX, hY] at HCON
  clear hX hY
  go_enter Try.func19, Try.ntmps19
  go_wp2_with (go_at_call 28; refine (none_any B M _ hB1).mono ?_; rintro e w' ⟨rfl, rfl⟩)
  go_wp2_with (go_at_call 45; refine (HCON.out).mono ?_; rintro e w2 ⟨rfl, hb2⟩)
  have hBb' := hBb
  rw [HX.out, HY.out] at hBb'
  have hst : Stp (fun _ => False) w w2 := Stp.of_below (hBb'.trans (hb2.mono (by simp; omega)))
  obtain ⟨w3, hE⟩ : ∃ w3, w3 = w2.drew := ⟨_, rfl⟩
  have hst3 : Stp (fun _ => False) w w3 := by rw [hE]; exact hst.drew
  have hB3 := hst3.keep hB (fun h => h)
  have hc3 : w3.cell? ⟨B, 0, none⟩ = some (.map (some M)) := by rw [cell_blk hB3]; rfl
  have hS3 : w3.heap[w.heap.size + 1]? = some (Obj.cells #[.bool (bget b k).1, .slice A (bget b k).2.length c] 57 (0, 0)) := by
    rw [hE]
    have h1 := HS.out
    rw [HY.out, HX.out] at h1
    have h2 := hb2.block (w.heap.size + 1) (by simp)
    exact h2.trans h1
  have s30 : w3.cell? ⟨w.heap.size + 1, 0, none⟩ = some (.bool (bget b k).1) := by rw [cell_blk hS3]; rfl
  have s31 : w3.cell? ⟨w.heap.size + 1, 1, none⟩ = some (.slice A (bget b k).2.length c) := by rw [cell_blk hS3]; rfl
  refine wp_region_still_tail 6 (by kernel_rfl) (by kernel_rfl) ?_
  change wpStill _ _ w2.drew (fun a' => wpList _ _ _ _ a' w2.drew) _ _
  rw [← hE]
  have HE := Lib.hid hE
  clear hE
  simp only [List.take_succ_cons, List.take_zero, List.drop_succ_cons, List.drop_zero]
  repeat still_step
  refine wpStill_nil ?_
  have hMB3 := hst3.mapB hMB (fun h => h) (fun _ _ h => h)
  obtain ⟨l, hown, hFl⟩ := hMB3.ex
  have hkey := key64 hk
  go_wp2_with (at_mapUpdate; refine wpList_mapUpdate_own _ rfl _ _ _ 47 rfl 3 57 K47 Try.underlying47 heldR M b.length (.map l) rfl hown (by unfold maxLen; omega) _ _ (.int .i64 k) rfl rfl hkey (.held (.agg #[.bool (bget b k).1, .slice A (bget b k).2.length c])) [] rfl ?_; intro w4 hown4 hgrow4)
  go_ret
  have hF3 : Kd.F k33 w3 ok A (bget b k).2.length (bget b k).2 := Kd.F_step hF (fun i _ hlt => hst3.block i hlt (fun h => h))
  exact ⟨rfl, hMB3.put (x := bget b k) ⟨A, c, rfl, hcl, hF3⟩ hgrow4 hM (n := b.length + 1) hown4 hFl, hst3.mono (fun _ _ h => h.elim) |>.trans (Stp.grown1 hgrow4) (fun _ _ h => h)⟩

set_option maxRecDepth 100000 in
set_option maxHeartbeats 2000000 in
theorem justify_yes (B M : Nat) (b : List Ent) (w : World) (ok : Nat → Prop) (k : Int) (hk : i64r k) (j : S33) (Aj : Option Addr) (cj : Nat) (hB : w.heap[B]? = some (.cells #[.map (some M)] 49 (0, 0))) (hMB : MapB w ok M b) (hM : ¬ ok M) (hlen : b.length < 1000000)
    (hj : ki.C w Aj j.f1.length j.f1) (hjl : j.f1.length ≤ 1000000) (hll : (bget b k).2.length ≤ 1000000) (hany : (bget b k).2.any (fun x => jeq x j) = false) :
    Calls Try.prog 19 #[.pointer (some ⟨B, 0, none⟩), .int .i64 k, .agg #[.int .i64 j.f0, .slice Aj j.f1.length cj]] w fun e w' => e = .returned (.bool true) ∧ MapB w' (fun i => ok i ∨ w.heap.size ≤ i) M (bput b k ((bget b k).1, (bget b k).2 ++ [j])) ∧ Stp (· = M) w w' := by
  obtain ⟨v, hv, hrun⟩ := hMB.look hk
  obtain ⟨A, c, rfl, hcl, hF⟩ := hv
  have hMl : M < w.heap.size := by obtain ⟨l, hown, _⟩ := hMB.ex; exact hown.lt
  -- the worlds
  obtain ⟨X, hX⟩ : ∃ X, X = Obj.cells #[.int .i64 j.f0, .slice Aj j.f1.length cj] 33 (0, 0) := ⟨_, rfl⟩
  obtain ⟨Y, hY⟩ : ∃ Y, Y = Obj.cells #[.bool (bget b k).1, .slice A (bget b k).2.length c] 57 (0, 0) := ⟨_, rfl⟩
  have hB1 := heap_alloc_lt w X hB
  have hc1 : (w.alloc X).cell? ⟨B, 0, none⟩ = some (.map (some M)) := by rw [cell_blk hB1]; rfl
  have hl := hrun (w.alloc X) (Below.heap_alloc w X M hMl)
  have hBb : Below w.heap.size w ((w.alloc X).alloc Y) := ((Below.refl _ _).alloc (Nat.le_refl _) _).alloc (by simp) _
  have hJ : ((w.alloc X).alloc Y).heap[w.heap.size]? = some (.cells #[.int .i64 j.f0, .slice Aj j.f1.length cj] 33 (0, 0)) := by
    rw [← hX]; exact heap_alloc_lt _ _ (World.alloc_heap_new w X)
  have hS : ((w.alloc X).alloc Y).heap[w.heap.size + 1]? = some Y := by
    have := World.alloc_heap_new (w.alloc X) Y
    simpa using this
  have hcon := containsJ_any 46 (.pointer (some ⟨w.heap.size, 0, none⟩)) (fun x => jeq x j) enters46 A c (bget b k).2 ((w.alloc X).alloc Y) (Kd.C_below (Kd.F_now hF) hBb) (pred46 j Aj cj w.heap.size _ _ hJ (Kd.C_below hj hBb))
  rw [hany] at hcon
  have HCON := Lib.hid hcon
  have HX := Lib.hid hX
  have HY := Lib.hid hY
  have HJ := Lib.hid hJ
  have HS := Lib.hid hS
  have HA := Lib.hid hany
  clear hcon hJ hS hany hMl
  rw [hX] at hB1 hc1 hl
  rw [hX, hY] at HCON
  clear hX hY
  have hBb' := hBb
  rw [HX.out, HY.out] at hBb'
  have facts : ∀ w2, Below ((w.alloc (.cells #[.int .i64 j.f0, .slice Aj j.f1.length cj] 33)).alloc (.cells #[.bool (bget b k).1, .slice A (bget b k).2.length c] 57)).heap.size ((w.alloc (.cells #[.int .i64 j.f0, .slice Aj j.f1.length cj] 33)).alloc (.cells #[.bool (bget b k).1, .slice A (bget b k).2.length c] 57)) w2 →
      Hid (Stp (fun _ => False) w w2 ∧ w.heap.size + 1 + 1 ≤ w2.heap.size ∧ w2.heap[w.heap.size]? = some (Obj.cells #[.int .i64 j.f0, .slice Aj j.f1.length cj] 33 (0, 0)) ∧ w2.heap[w.heap.size + 1]? = some (Obj.cells #[.bool (bget b k).1, .slice A (bget b k).2.length c] 57 (0, 0))) := by
    intro w2 hb2
    refine Lib.hid ⟨Stp.of_below (hBb'.trans (hb2.mono (by simp; omega))), by have := hb2.size; simpa using this, ?_, ?_⟩
    · have h1 := HJ.out
      rw [HX.out, HY.out] at h1
      exact (hb2.block _ (by simp; omega)).trans h1
    · have h1 := HS.out
      rw [HY.out, HX.out] at h1
      exact (hb2.block _ (by simp)).trans h1
  go_enter Try.func19, Try.ntmps19
  go_wp2_with (go_at_call 28; refine (none_any B M _ hB1).mono ?_; rintro e w' ⟨rfl, rfl⟩)
  go_wp2_with (go_at_call 45; refine (HCON.out).mono ?_; rintro e w2 ⟨rfl, hb2⟩; have H2 := facts w2 hb2; clear facts; have cJ1 : w2.cell? ⟨w.heap.size, 1, none⟩ = some (.slice Aj j.f1.length cj) := by rw [cell_blk H2.out.2.2.1]; rfl)
  go_wp2_with (go_at_call 32; refine (cloneI_any Aj cj j.f1 w2 (Kd.C_below hj (H2.out.1.to_below (Nat.le_refl _) (fun _ h => h.elim))) hjl).mono ?_; rintro e w3 ⟨v3, rfl, hN3, hb3⟩; obtain ⟨A3, c3, rfl⟩ := Kd.N_slice hN3; have H3 := Lib.hid (And.intro ((hb3.block w.heap.size (by have := H2.out.2.1; omega)).trans H2.out.2.2.1) ((hb3.block (w.heap.size + 1) (by have := H2.out.2.1; omega)).trans H2.out.2.2.2)); have cJ3 : w3.cell? ⟨w.heap.size, 1, none⟩ = some (.slice Aj j.f1.length cj) := (by rw [cell_blk H3.out.1]; rfl); have fJ3 : w3.frozen? ⟨w.heap.size, 1, none⟩ = false := blk_frozen H3.out.1 1)
  -- the world ahead of the region
  obtain ⟨w4, hE4⟩ : ∃ w4, w4 = w3.setCell ⟨w.heap.size, 1, none⟩ (.slice A3 j.f1.length c3) := ⟨_, rfl⟩
  rw [← hE4]
  have hst2 := H2.out.1
  have hsz2 := H2.out.2.1
  have hsz3 := hb3.size
  have hJ4 : w4.heap[w.heap.size]? = some (Obj.cells #[.int .i64 j.f0, .slice A3 j.f1.length c3] 33 (0, 0)) := by
    have := blk_set H3.out.1 1 (.slice A3 j.f1.length c3)
    rw [hE4, this]; rfl
  have hS4 : w4.heap[w.heap.size + 1]? = some (Obj.cells #[.bool (bget b k).1, .slice A (bget b k).2.length c] 57 (0, 0)) := by
    rw [hE4]; exact blk_far H3.out.2 (by simp) _
  have hN4 : Kd.N ki 3 w4 w2.heap.size (fun i => w2.heap.size ≤ i) (.slice A3 j.f1.length c3) j.f1 := by
    rw [hE4]; exact Kd.N_far hN3 (fun i hi => by simp; omega) _
  have hst4 : Stp (fun _ => False) w w4 := by
    rw [hE4]
    exact ((hst2.below hb3).mono (fun _ _ h => h)).setCell (.inr (by simp)) _
  have hsz4 : w4.heap.size = w3.heap.size := by rw [hE4]; simp [World.setCell]
  have hc3 : j.f1.length ≤ c3 := (Kd.N_reads' hN4).2.1
  have hlt21 : w2.heap.size ≤ w4.heap.size := by omega
  have hFj : Kd.F ki w4 (fun i => w2.heap.size ≤ i) A3 j.f1.length j.f1 := Kd.N_F hN4
  have hFl : Kd.F k33 w4 (fun i => ok i ∧ i < w.heap.size) A (bget b k).2.length (bget b k).2 := Kd.F_step (Kd.F_bound hF) (fun i hi _ => hst4.block i hi.2 (fun h => h))
  have HE4 := Lib.hid hE4
  have hz34 : w3.heap.size ≤ w4.heap.size := by omega
  clear hsz4
  clear hE4 cJ3 fJ3 cJ1
  have c40 : w4.cell? ⟨w.heap.size, 0, none⟩ = some (.int .i64 j.f0) := by rw [cell_blk hJ4]; rfl
  have c41 : w4.cell? ⟨w.heap.size, 1, none⟩ = some (.slice A3 j.f1.length c3) := by rw [cell_blk hJ4]; rfl
  have s41 : w4.cell? ⟨w.heap.size + 1, 1, none⟩ = some (.slice A (bget b k).2.length c) := by rw [cell_blk hS4]; rfl
  have s41b : (w4.alloc (.cells #[.int .i64 j.f0, .slice A3 j.f1.length c3] 33)).cell? ⟨w.heap.size + 1, 1, none⟩ = some (.slice A (bget b k).2.length c) := by
    have := heap_alloc_lt w4 (.cells #[.int .i64 j.f0, .slice A3 j.f1.length c3] 33) hS4
    rw [cell_blk this]; rfl
  have c40b : (w4.alloc (.cells #[.int .i64 j.f0, .slice A3 j.f1.length c3] 33)).cell? ⟨w.heap.size, 0, none⟩ = some (.int .i64 j.f0) := by
    have := heap_alloc_lt w4 (.cells #[.int .i64 j.f0, .slice A3 j.f1.length c3] 33) hJ4
    rw [cell_blk this]; rfl
  have c41b : (w4.alloc (.cells #[.int .i64 j.f0, .slice A3 j.f1.length c3] 33)).cell? ⟨w.heap.size, 1, none⟩ = some (.slice A3 j.f1.length c3) := by
    have := heap_alloc_lt w4 (.cells #[.int .i64 j.f0, .slice A3 j.f1.length c3] 33) hJ4
    rw [cell_blk this]; rfl
  have HFl : ∀ W, Below w4.heap.size w4 W → Hid (Kd.F k33 W (fun i => ok i ∧ i < w.heap.size) A (bget b k).2.length (bget b k).2) := fun W hW => Lib.hid (Kd.F_below hFl hW)
  go_cut [] (fun w6 => ∃ A6 c6, Stp (· = w.heap.size + 1) w4 w6 ∧ w6.heap[w.heap.size + 1]? = some (Obj.cells #[.bool (bget b k).1, .slice A6 ((bget b k).2 ++ [j]).length c6] 57 (0, 0)) ∧ ((bget b k).2 ++ [j]).length ≤ c6 ∧ Kd.F k33 w6 (fun i => ok i ∨ w.heap.size ≤ i) A6 ((bget b k).2 ++ [j]).length ((bget b k).2 ++ [j]))
  case first =>
    go_region_law
      (first
        | (refine J_app1 (w4 := w4) w.heap.size w2.heap.size (by rfl) _ _ (by rfl) v5 (bget b k).2 j A3 c3 (fun i => ok i ∧ i < w.heap.size) (by exact (Below.refl _ _).drew) hb5 hN5 hFj hc3 (by omega) (by omega) hll (by rfl) (by rfl) ?_; intro A6 c6 w6 hN6 hB6 hc6; have s61 : w6.cell? ⟨w.heap.size + 1, 1, none⟩ = some (.slice A (bget b k).2.length c) := (hB6.cell (p := ⟨w.heap.size + 1, 1, none⟩) (by simp; omega)).trans s41; have f61 : w6.frozen? ⟨w.heap.size + 1, 1, none⟩ = false := blk_frozen ((hB6.block _ (by omega)).trans hS4) 1)
        | (refine J_app2 (w4 := w4) w.heap.size w2.heap.size (by rfl) _ _ (by rfl) v5 (bget b k).2 j A3 c3 (fun i => ok i ∧ i < w.heap.size) (by first | exact ((Below.refl _ _).drew).alloc (by simp) _ | exact ((Below.refl _ _).alloc (Nat.le_refl _) _).drew) (by exact World.alloc_heap_new w4 _) hb5 hN5 hFj hc3 (by omega) (by omega) hll (by rfl) (by rfl) ?_; intro A6 c6 w6 hN6 hB6 hc6; have s61 : w6.cell? ⟨w.heap.size + 1, 1, none⟩ = some (.slice A (bget b k).2.length c) := (hB6.cell (p := ⟨w.heap.size + 1, 1, none⟩) (by simp; omega)).trans s41; have f61 : w6.frozen? ⟨w.heap.size + 1, 1, none⟩ = false := blk_frozen ((hB6.block _ (by omega)).trans hS4) 1)
        | (go_simp; go_at_call 48; refine (cloneJ_any A c _ _ (fun i => ok i ∧ i < w.heap.size) ((HFl _ (by first | exact (Below.refl _ _).drew | exact ((Below.refl _ _).drew).alloc (by simp) _ | exact ((Below.refl _ _).alloc (Nat.le_refl _) _).drew)).out) hll).mono ?_; rintro e w5 ⟨v5, rfl, hN5, hb5⟩; have n50 : w5.cell? ⟨w.heap.size, 0, none⟩ = some (.int .i64 j.f0) := ((bcell hb5).1 _ _ (by simp; omega)).trans (by first | exact c40 | (simp; exact c40) | exact c40b); have n51 : w5.cell? ⟨w.heap.size, 1, none⟩ = some (.slice A3 j.f1.length c3) := ((bcell hb5).1 _ _ (by simp; omega)).trans (by first | exact c41 | (simp; exact c41) | exact c41b)))
    all_goals
      go_wp2_with fail
      go_meet
      have hS6 := blk_set ((hB6.block _ (by omega)).trans hS4) 1 (.slice A6 ((bget b k).2.length + 1) c6)
      simp only [List.length_append, List.length_singleton] at hN6 hc6 ⊢
      exact ⟨A6, c6, (Stp.of_below (S := (· = w.heap.size + 1)) hB6).setCell (p := ⟨w.heap.size + 1, 1, none⟩) (.inl rfl) _, hS6, hc6, Kd.F_mono (Kd.N_F (Kd.N_far hN6 (p := ⟨w.heap.size + 1, 1, none⟩) (fun i hi => hi.elim (fun h => by have := h.2; simp; omega) (fun h => h.2)) _)) (fun i hi => hi.elim (fun h => .inl h.1) (fun h => .inr h.1))⟩
  case rest =>
    obtain ⟨A6, c6, hst6, hS6, hc6, hF6⟩ := hcut
    obtain ⟨w6, hw6⟩ : ∃ w6, w6 = wc := ⟨_, rfl⟩
    subst hw6
    have hstw : Stp (fun _ => False) w w6 := hst4.trans hst6 (fun i hi e => by omega)
    go_wp2_with fail
    obtain ⟨w7, hE⟩ : ∃ w7, w7 = w6.drew := ⟨_, rfl⟩
    have hst7 : Stp (fun _ => False) w w7 := by rw [hE]; exact hstw.drew
    have hB7 := hst7.keep hB (fun h => h)
    have hc7 : w7.cell? ⟨B, 0, none⟩ = some (.map (some M)) := by rw [cell_blk hB7]; rfl
    have hS7 : w7.heap[w.heap.size + 1]? = some (Obj.cells #[.bool (bget b k).1, .slice A6 ((bget b k).2 ++ [j]).length c6] 57 (0, 0)) := by
      rw [hE]; exact hS6
    have hF7 : Kd.F k33 w7 (fun i => ok i ∨ w.heap.size ≤ i) A6 ((bget b k).2 ++ [j]).length ((bget b k).2 ++ [j]) := by rw [hE]; exact Kd.F_drew hF6
    have s70 : w7.cell? ⟨w.heap.size + 1, 0, none⟩ = some (.bool (bget b k).1) := by rw [cell_blk hS7]; rfl
    have s71 : w7.cell? ⟨w.heap.size + 1, 1, none⟩ = some (.slice A6 ((bget b k).2 ++ [j]).length c6) := by rw [cell_blk hS7]; rfl
    refine wp_region_still_tail 6 (by kernel_rfl) (by kernel_rfl) ?_
    change wpStill _ _ w6.drew (fun a' => wpList _ _ _ _ a' w6.drew) _ _
    rw [← hE]
    have HE := Lib.hid hE
    clear hE
    simp only [List.take_succ_cons, List.take_zero, List.drop_succ_cons, List.drop_zero]
    repeat still_step
    refine wpStill_nil ?_
    have hMB7 := (hst7.mapB hMB (fun h => h) (fun _ _ h => h)).mono (ok' := fun i => ok i ∨ w.heap.size ≤ i) (fun _ h _ => .inl h)
    have hMl : M < w.heap.size := by obtain ⟨l, hown, _⟩ := hMB.ex; exact hown.lt
    obtain ⟨l, hown, hFl2⟩ := hMB7.ex
    have hkey := key64 hk
    go_wp2_with (at_mapUpdate; refine wpList_mapUpdate_own _ rfl _ _ _ 47 rfl 3 57 K47 Try.underlying47 heldR M b.length (.map l) rfl hown (by unfold maxLen; omega) _ _ (.int .i64 k) rfl rfl hkey (.held (.agg #[.bool (bget b k).1, .slice A6 ((bget b k).2.length + 1) c6])) [] rfl ?_; intro w8 hown8 hgrow8)
    go_ret
    simp only [List.length_append, List.length_singleton] at hF7 hc6
    exact ⟨rfl, hMB7.put (x := ((bget b k).1, (bget b k).2 ++ [j])) ⟨A6, c6, by simp, by simpa using hc6, by simpa using hF7⟩ hgrow8 (by rintro (h | h); exact hM h; omega) (n := b.length + 1) hown8 hFl2, hst7.mono (fun _ _ h => h.elim) |>.trans (Stp.grown1 hgrow8) (fun _ _ h => h)⟩
end Go.Proofs.Ytbmnefdiiibabaa
