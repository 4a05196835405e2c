import Derived.Test.YtbmnefdiiibabaaUI
namespace Go.Proofs.Ytbmnefdiiibabaa
set_option linter.unusedVariables false
set_option linter.unusedSimpArgs false
open Go.RowKit Go.Maps Go.Sort Go.Shelf Go.Proofs.YtbmnefdiiibabaaW.PrintWords Go.Proofs.YtbmnefdiiibabaaW.PrintMore PTruthPlays

/-- both books, side by side -/
structure Two (W : World) (n : Nat) (P Q : Nat → Prop) (B M R : Nat) (b : List Ent) (rows : List S69) : Prop where
  prog : ProgB W P B M b
  ref : RefP W Q R rows
  apart : ∀ i, P i → ¬ Q i
  corr : Corr b rows
  bnd : RBnd n rows
/-- what a step leaves -/
def StepR (n : Nat) (w : World) (P Q : Nat → Prop) (e : Ending) (w' : World) : Prop :=
  ∃ B M R b rows P' Q', e = .returned (.tuple #[.pointer (some ⟨B, 0, none⟩), .pointer (some ⟨R, 0, none⟩), .bool true]) ∧ Two w' (n + 1) P' Q' B M R b rows ∧ Stp (fun i => P i ∨ Q i) w w' ∧ (∀ i, P' i → P i ∨ w.heap.size ≤ i) ∧ ∀ i, Q' i → Q i ∨ w.heap.size ≤ i

theorem N_empty_at {α : Type} (d : Kd α) (e : Nat) (W : World) (base g : Nat) (ok : Nat → Prop) (hg : W.heap[g]? = some (.cells #[] e (0, 0))) (hb : base ≤ g) (hok : ok g) : Kd.N d e W base ok (.slice (some ⟨g, 0, none⟩) 0 0) [] := by
  refine ⟨fun k hk => ?_, [], rfl, ⟨fun k hk => hk.symm, [], ⟨by simp, .inr ⟨g, 0, #[], rfl, hb, hg, Nat.le_refl _, by unfold maxLen; omega, by simp, by simp⟩⟩, Reps.none _ _⟩, fun j x c hx => by simp at hx⟩
  have : g = k := by simpa [Value.ownBlock] using hk
  rw [← this]; exact hok
/-- append([]int{}, l...), wherever the empty one was laid -/
theorem app_any {ops : Array Oper} {o : Oper} {a : Act} {Kc : Act → World → Prop} {Q : Exit → Act → World → Prop} {w1 W : World} (g : Nat) (hgd : o.guard = none) (s x : Operand)
    (ho : o.op = .call { callee := .builtin .append, args := #[s, x], argTypes := #[31, 31] }) (l : List Int) (Aj : Option Addr) (cj : Nat) (okj : Nat → Prop) (hF : Kd.F ki w1 okj Aj l.length l) (hW : Below w1.heap.size w1 W) (hg : W.heap[g]? = some (.cells #[] 3 (0, 0))) (hgl : w1.heap.size ≤ g) (hl : l.length ≤ 1000000)
    (hs : a.eval s = .slice (some ⟨g, 0, none⟩) 0 0) (hx : a.eval x = .slice Aj l.length cj)
    (h : ∀ A3 c3 w3, Kd.N ki 3 w3 w1.heap.size (fun i => w1.heap.size ≤ i ∧ i < w3.heap.size ∧ (i = g ∨ W.heap.size ≤ i)) (.slice A3 l.length c3) l → Below w1.heap.size w1 w3 → Stp (· = g) W w3 → Kc (a.put o.dst (.slice A3 l.length c3)) w3) :
    if Region.wanted o (yielded ops a.tmps) = true then Oper.wp Try.prog o a W Kc Q else Kc (a.put o.dst undef) W := by
  have hgW := blk_lt' hg
  have hF2 : Kd.F ki W (fun i => i < w1.heap.size) Aj l.length l := Kd.F_mono (Kd.F_below (Kd.F_bound hF) hW) (fun i hi => hi.2)
  refine Kd.N_append_rows_step (w0 := w1) ki w1.heap.size (by simp [Region.wanted, hgd]) s x 31 3 (.int .i64 0) 8 ho Try.underlying31 info3 rfl (by decide) (by decide) (.slice (some ⟨g, 0, none⟩) 0 0) [] l Aj l.length cj (fun _ => True) (fun i => i < w1.heap.size) hs hx
    (N_empty_at ki 3 W w1.heap.size g _ hg hgl trivial) hF2 (fun i hi => ⟨trivial, fun e => by simp [Value.ownBlock] at e; omega⟩) (fun _ _ => trivial) hW hW.size (by simp; omega) ?_
  intro v3 w3 hN3 hB3 hg3 hat3
  rw [List.nil_append] at hN3
  have hM := N_ki_any (ok' := fun i => w1.heap.size ≤ i ∧ i < w3.heap.size ∧ (i = g ∨ W.heap.size ≤ i)) hN3 (fun i hi => ⟨Kd.N_base hN3 i hi, Kd.N_lt hN3 i hi, by
    rcases hat3 with h1 | ⟨b, h1, h2⟩
    · rw [h1] at hi; simp [Value.ownBlock] at hi; exact .inl hi.symm
    · rw [h1] at hi; injection hi with hi; exact .inr (hi ▸ h2)⟩)
  obtain ⟨A3, c3, rfl⟩ := Kd.N_slice hM
  exact h A3 c3 w3 hM hB3 (Stp.of_grown hg3 |>.mono (fun i _ e => by simp [Value.ownBlock] at e; exact e.symm))
abbrev Z33 : Obj := .cells #[.int .i64 0, .slice none 0 0] 33 (0, 0)
theorem box_end {w1 w3 : World} {J g s c : Nat} {A : Option Addr} {r : Int} {l : List Int} (hJ : w3.heap[J]? = some Z33) (hJl : w1.heap.size ≤ J) (hN : Kd.N ki 3 w3 w1.heap.size (fun i => w1.heap.size ≤ i ∧ i < w3.heap.size ∧ (i = g ∨ s ≤ i)) (.slice A l.length c) l) (hB : Below w1.heap.size w1 w3) (hne : g ≠ J) (hs : J < s) :
    ((w3.setCell ⟨J, 0, none⟩ (.int .i64 r)).setCell ⟨J, 1, none⟩ (.slice A l.length c)).heap[J]? = some (.cells #[.int .i64 r, .slice A l.length c] 33 (0, 0)) ∧
    Kd.N ki 3 ((w3.setCell ⟨J, 0, none⟩ (.int .i64 r)).setCell ⟨J, 1, none⟩ (.slice A l.length c)) w1.heap.size (fun i => w1.heap.size ≤ i ∧ i ≠ J) (.slice A l.length c) l ∧
    Below w1.heap.size w1 ((w3.setCell ⟨J, 0, none⟩ (.int .i64 r)).setCell ⟨J, 1, none⟩ (.slice A l.length c)) := by
  have hN2 := Kd.N_mono (ok' := fun i => w1.heap.size ≤ i ∧ i ≠ J) hN (fun i hi => ⟨hi.1, by have := hi.2.2; omega⟩)
  refine ⟨?_, Kd.N_far (p := ⟨J, 1, none⟩) (Kd.N_far (p := ⟨J, 0, none⟩) hN2 (fun i hi => hi.2) _) (fun i hi => hi.2) _, (hB.setCell (p := ⟨J, 0, none⟩) hJl _).setCell (p := ⟨J, 1, none⟩) hJl _⟩
  have h1 := blk_set hJ 0 (.int .i64 r)
  have h2 := blk_set h1 1 (.slice A l.length c)
  rw [h2]; rfl

/-- behind the switch -/
def MidR (n : Nat) (w2 : World) (P Q : Nat → Prop) (v0 v1 v10 : Value) (W : World) : Prop :=
  ∃ B M R b rows P' Q', v0 = .pointer (some ⟨B, 0, none⟩) ∧ v1 = .pointer (some ⟨R, 0, none⟩) ∧ v10 = .bool true ∧ Two W (n + 1) P' Q' B M R b rows ∧ Stp (fun i => P i ∨ Q i) w2 W ∧ (∀ i, P' i → P i ∨ w2.heap.size ≤ i) ∧ ∀ i, Q' i → Q i ∨ w2.heap.size ≤ i

theorem mid_two {n : Nat} {w2 w3 w4 : World} {P Q P' : Nat → Prop} {B M R : Nat} {b : List Ent} {rows : List S69} (hPw : ∀ i, P i → i < w2.heap.size) (hQw : ∀ i, Q i → i < w2.heap.size) (hap : ∀ i, P i → ¬ Q i)
    (hp3 : ProgB w3 P' B M b) (hP' : ∀ i, P' i → P i ∨ (w2.heap.size ≤ i ∧ i < w3.heap.size)) (hs3 : Stp P w2 w3) (hr4 : RefP w4 (grw Q w3 w4) R rows) (hs4 : Stp Q w3 w4) (hc : Corr b rows) (hb : RBnd (n + 1) rows) :
    MidR n w2 P Q (.pointer (some ⟨B, 0, none⟩)) (.pointer (some ⟨R, 0, none⟩)) (.bool true) w4 := by
  have hz3 := hs3.size
  have hz4 := hs4.size
  have hd : ∀ i, P' i → ¬ Q i := fun i hi hq => by
    rcases hP' i hi with h | h
    · exact hap i h hq
    · have := hQw i hq; omega
  refine ⟨B, M, R, b, rows, P', grw Q w3 w4, rfl, rfl, rfl, ⟨hp3.stp hs4 hd, hr4, fun i hi hq => ?_, hc, hb⟩, ?_, fun i hi => ?_, fun i hi => ?_⟩
  · rcases hq with hq | hq
    · exact hd i hi hq
    · have := hp3.lt i hi; omega
  · exact (hs3.mono (fun i _ h => .inl h)).trans hs4 (fun i _ h => .inr h)
  · rcases hP' i hi with h | h
    · exact .inl h
    · exact .inr h.1
  · rcases hi with h | h
    · exact .inl h
    · exact .inr (by omega)

set_option maxRecDepth 100000 in
set_option maxHeartbeats 4000000 in
theorem step_any (n : Nat) (hn : n ≤ 100) (w : World) (P Q : Nat → Prop) (B M R : Nat) (b : List Ent) (rows : List S69) (h : Two w n P Q B M R b rows) (kd id : Int) (hid : i64r id) (j : S33) (Aj : Option Addr) (cj : Nat) (okj : Nat → Prop) (hj : Kd.F ki w okj Aj j.f1.length j.f1) (hcj : j.f1.length ≤ cj) (hjl : j.f1.length ≤ 20) (hjz : ∀ z ∈ j.f1, i64r z)
    (hjP : ∀ i, okj i → ¬ P i) (hjQ : ∀ i, okj i → ¬ Q i) :
    Calls Try.prog 7 #[.pointer (some ⟨B, 0, none⟩), .pointer (some ⟨R, 0, none⟩), .agg #[.int .i64 kd, .int .i64 id, .int .i64 j.f0, .slice Aj j.f1.length cj]] w (StepR n w P Q) := by
  -- the box of o
  obtain ⟨w1, hw1⟩ : ∃ w1, w1 = w.alloc (.cells #[.int .i64 kd, .int .i64 id, .int .i64 j.f0, .slice Aj j.f1.length cj] 35) := ⟨_, rfl⟩
  have hbw1 : Below w.heap.size w w1 := by rw [hw1]; exact (Below.refl _ _).alloc (Nat.le_refl _) _
  have hO1 : w1.heap[w.heap.size]? = some (.cells #[.int .i64 kd, .int .i64 id, .int .i64 j.f0, .slice Aj j.f1.length cj] 35 (0, 0)) := by rw [hw1]; exact World.alloc_heap_new w _
  have hsz1 := blk_lt' hO1
  have hFj1 : Kd.F ki w1 (fun i => okj i ∧ i < w.heap.size) Aj j.f1.length j.f1 := Kd.F_below (Kd.F_bound hj) hbw1
  have o2 : w1.cell? ⟨w.heap.size, 2, none⟩ = some (.int .i64 j.f0) := by rw [cell_blk hO1]; rfl
  have o3 : w1.cell? ⟨w.heap.size, 3, none⟩ = some (.slice Aj j.f1.length cj) := by rw [cell_blk hO1]; rfl
  have hmaxj := C_max (Kd.F_now hFj1)
  have H := Lib.hid h
  have HW1 := Lib.hid hw1
  have HO1 := Lib.hid hO1
  clear hw1 hO1 h
  go_enter Try.func7, Try.ntmps7
  go_wp2_with fail
  rw [← HW1.out]
  go_cut [9] (fun v9 W => ∃ J A c, v9 = .pointer (some ⟨J, 0, none⟩) ∧ w1.heap.size ≤ J ∧ W.heap[J]? = some (.cells #[.int .i64 j.f0, .slice A j.f1.length c] 33 (0, 0)) ∧ Kd.N ki 3 W w1.heap.size (fun i => w1.heap.size ≤ i ∧ i ≠ J) (.slice A j.f1.length c) j.f1 ∧ Below w1.heap.size w1 W)
  case first =>
    have BE : Below w1.heap.size w1 (w1.alloc (.cells #[] 3)).drew := ((Below.refl _ _).alloc (Nat.le_refl _) _).drew
    have hE : (w1.alloc (.cells #[] 3)).drew.heap[w1.heap.size]? = some (.cells #[] 3 (0, 0)) := World.alloc_heap_new w1 _
    have BEZ : Below w1.heap.size w1 ((w1.alloc (.cells #[] 3)).alloc Z33).drew := (((Below.refl _ _).alloc (Nat.le_refl _) _).alloc (by simp) _).drew
    have hEZe : ((w1.alloc (.cells #[] 3)).alloc Z33).drew.heap[w1.heap.size]? = some (.cells #[] 3 (0, 0)) := heap_alloc_lt _ _ (World.alloc_heap_new w1 _)
    have hEZz : ((w1.alloc (.cells #[] 3)).alloc Z33).drew.heap[w1.heap.size + 1]? = some Z33 := by
      have := World.alloc_heap_new (w1.alloc (.cells #[] 3)) Z33
      show ((w1.alloc (.cells #[] 3)).alloc Z33).heap[w1.heap.size + 1]? = some Z33
      simpa using this
    have BZE : Below w1.heap.size w1 ((w1.alloc Z33).alloc (.cells #[] 3)).drew := (((Below.refl _ _).alloc (Nat.le_refl _) _).alloc (by simp) _).drew
    have hZEz : ((w1.alloc Z33).alloc (.cells #[] 3)).drew.heap[w1.heap.size]? = some Z33 := heap_alloc_lt _ _ (World.alloc_heap_new w1 _)
    have hZEe : ((w1.alloc Z33).alloc (.cells #[] 3)).drew.heap[w1.heap.size + 1]? = some (.cells #[] 3 (0, 0)) := by
      have := World.alloc_heap_new (w1.alloc Z33) (.cells #[] 3)
      show ((w1.alloc Z33).alloc (.cells #[] 3)).heap[w1.heap.size + 1]? = some (.cells #[] 3 (0, 0))
      simpa using this
    have HZ := Lib.hid (And.intro hE (And.intro hEZe (And.intro hEZz (And.intro hZEz hZEe))))
    clear hE hEZe hEZz hZEz hZEe
    go_region_held3 (fun w' => w'.cell? ⟨w.heap.size, 2, none⟩ = some (.int .i64 j.f0) ∧ w'.cell? ⟨w.heap.size, 3, none⟩ = some (.slice Aj j.f1.length cj)) (first | go_keep | (exact ⟨(hB3.cell (p := ⟨w.heap.size, 2, none⟩) (by simp; omega)).trans o2, (hB3.cell (p := ⟨w.heap.size, 3, none⟩) (by simp; omega)).trans o3⟩) | (exact ⟨(((hB3.setCell (p := ⟨_, 0, none⟩) (by simp) _).setCell (p := ⟨_, 1, none⟩) (by simp) _).cell (p := ⟨w.heap.size, 2, none⟩) (by simp; omega)).trans o2, (((hB3.setCell (p := ⟨_, 0, none⟩) (by simp) _).setCell (p := ⟨_, 1, none⟩) (by simp) _).cell (p := ⟨w.heap.size, 3, none⟩) (by simp; omega)).trans o3⟩) | (exact ⟨((hB3.alloc hB3.size _).cell (p := ⟨w.heap.size, 2, none⟩) (by simp; omega)).trans o2, ((hB3.alloc hB3.size _).cell (p := ⟨w.heap.size, 3, none⟩) (by simp; omega)).trans o3⟩))
      (first
        | (refine app_any (w1 := w1) w1.heap.size (by rfl) _ _ (by rfl) j.f1 Aj cj _ hFj1 (by exact BE) (by exact HZ.out.1) (Nat.le_refl _) (by omega) (by rfl) (by rfl) ?_; intro A3 c3 w3 hN3 hB3 hS3; have hM3 := Lib.hid (Kd.N_mono (ok' := fun i => w1.heap.size ≤ i ∧ i < w3.heap.size) hN3 (fun i hi => ⟨hi.1, hi.2.1⟩)))
        | (refine app_any (w1 := w1) w1.heap.size (by rfl) _ _ (by rfl) j.f1 Aj cj _ hFj1 (by exact BEZ) (by exact HZ.out.2.1) (Nat.le_refl _) (by omega) (by rfl) (by rfl) ?_; intro A3 c3 w3 hN3 hB3 hS3; have hJ3 := hS3.keep HZ.out.2.2.1 (by simp); have z0 : w3.cell? ⟨w1.heap.size + 1, 0, none⟩ = some (.int .i64 0) := (by rw [cell_blk hJ3]; rfl); have z1 : w3.cell? ⟨w1.heap.size + 1, 1, none⟩ = some (.slice none 0 0) := (by rw [cell_blk hJ3]; rfl); have z2 := blk_frozen hJ3 0; have z3 := blk_frozen hJ3 1; have hJJ := Lib.hid hJ3; have hM3 := Lib.hid hN3; clear hJ3 hN3)
        | (refine app_any (w1 := w1) (w1.heap.size + 1) (by rfl) _ _ (by rfl) j.f1 Aj cj _ hFj1 (by exact BZE) (by exact HZ.out.2.2.2.2) (by omega) (by omega) (by rfl) (by rfl) ?_; intro A3 c3 w3 hN3 hB3 hS3; have hJ3 := hS3.keep HZ.out.2.2.2.1 (by simp); have z0 : w3.cell? ⟨w1.heap.size, 0, none⟩ = some (.int .i64 0) := (by rw [cell_blk hJ3]; rfl); have z1 : w3.cell? ⟨w1.heap.size, 1, none⟩ = some (.slice none 0 0) := (by rw [cell_blk hJ3]; rfl); have z2 := blk_frozen hJ3 0; have z3 := blk_frozen hJ3 1; have hJJ := Lib.hid hJ3; have hM3 := Lib.hid hN3; clear hJ3 hN3))
    all_goals
      go_wp2_with fail
      go_meet
      have hz3 := hB3.size
      first
        | exact ⟨w3.heap.size, A3, c3, rfl, hz3, World.alloc_heap_new w3 _, Kd.N_mono (Kd.N_alloc hM3.out _) (fun i hi => ⟨hi.1, by omega⟩), hB3.alloc hz3 _⟩
        | exact ⟨w1.heap.size + 1, A3, c3, rfl, by omega, box_end (J := w1.heap.size + 1) hJJ.out (by omega) hM3.out hB3 (by omega) (by simp)⟩
        | exact ⟨w1.heap.size, A3, c3, rfl, Nat.le_refl _, box_end (J := w1.heap.size) hJJ.out (Nat.le_refl _) hM3.out hB3 (by omega) (by simp; omega)⟩
  case rest =>
    obtain ⟨J, A, c, rfl, hJ1, hJ, hN, hb12⟩ := hcut
    obtain ⟨w2, rfl⟩ : ∃ w2, w2 = wc := ⟨_, rfl⟩
    have hz2 := hb12.size
    have hJl := blk_lt' hJ
    have hO2 := (hb12.block w.heap.size (by omega)).trans HO1.out
    have hb2 : Below w.heap.size w w2 := hbw1.trans (hb12.mono (by omega))
    have hp2 := H.out.prog.below hb2
    have hr2 := H.out.ref.below hb2
    have hcor := H.out.corr
    have hbnd := H.out.bnd
    have hap := H.out.apart
    have hPw : ∀ i, P i → i < w.heap.size := H.out.prog.lt
    have hQw : ∀ i, Q i → i < w.heap.size := H.out.ref.lt
    have hbb := hbnd.book hcor
    have hFA : Kd.F ki w2 (fun i => (w1.heap.size ≤ i ∧ i ≠ J) ∧ i < w2.heap.size) A j.f1.length j.f1 := Kd.F_bound (Kd.N_F hN)
    have hFj2 : Kd.F ki w2 (fun i => okj i ∧ i < w.heap.size) Aj j.f1.length j.f1 := Kd.F_below hFj1 hb12
    have hcA := (Kd.N_reads' hN).2.1
    have oo0 : w2.cell? ⟨w.heap.size, 0, none⟩ = some (.int .i64 kd) := by rw [cell_blk hO2]; rfl
    have oo1 : w2.cell? ⟨w.heap.size, 1, none⟩ = some (.int .i64 id) := by rw [cell_blk hO2]; rfl
    have oo2 : w2.cell? ⟨w.heap.size, 2, none⟩ = some (.int .i64 j.f0) := by rw [cell_blk hO2]; rfl
    have oo3 : w2.cell? ⟨w.heap.size, 3, none⟩ = some (.slice Aj j.f1.length cj) := by rw [cell_blk hO2]; rfl
    have jj0 : w2.cell? ⟨J, 0, none⟩ = some (.int .i64 j.f0) := by rw [cell_blk hJ]; rfl
    have jj1 : w2.cell? ⟨J, 1, none⟩ = some (.slice A j.f1.length c) := by rw [cell_blk hJ]; rfl
    have hmaxA := C_max (Kd.F_now hFA)
    have HO2 := Lib.hid hO2
    have HJ2 := Lib.hid hJ
    have HJZ := Lib.hid hjz
    have HAP := Lib.hid hap
    have HPW := Lib.hid hPw
    have HQW := Lib.hid hQw
    have HJP := Lib.hid hjP
    have HJQ := Lib.hid hjQ
    clear hO2 hJ o2 o3 hj hFj1 hjz hap hPw hQw hjP hjQ
    go_upto_block 0 with (fail)
    go_cut [0, 1, 10] (fun v0 v1 v10 W => MidR n w2 P Q v0 v1 v10 W)
    case first =>
      by_cases k1 : kd = 1
      · subst k1
        go_wp2_with (first
          | (go_at_call 18; refine (p_plain hp2 hbb (by omega) id hid).mono ?_; rintro e w3 ⟨rfl, hp3, hs3⟩; have hz3 := hs3.size; have hO3 := hs3.keep HO2.out (fun e : w.heap.size = M => by have := HPW.out _ hp2.pM; omega); have oo13 : w3.cell? ⟨w.heap.size, 1, none⟩ = some (.int .i64 id) := (by rw [cell_blk hO3]; rfl); have hr3 := hr2.stp hs3 (fun i hi e => HAP.out M hp2.pM (e ▸ hi)); clear hO3)
          | (go_at_call 21; refine (t_plain hr3 hcor hbnd (by omega) id hid).mono ?_; rintro e w4 ⟨rows4, rfl, hr4, hs4, hc4, hb4⟩))
        go_meet
        exact mid_two hp2.lt hr2.lt HAP.out hp3 (fun i hi => .inl hi) (hp2.turned (W := w2) hs3) hr4 hs4 hc4 hb4
      · have q1 : (kd == 1) = false := by simpa using k1
        by_cases k2 : kd = 2
        · subst k2
          clear k1 q1
          have hdr : Below w2.heap.size w2 w2.drew := (Below.refl _ _).drew
          have hp2d := hp2.below hdr
          have hr2d := hr2.below hdr
          obtain ⟨q, hq⟩ : ∃ q, q = (bjust b id j).2 := ⟨_, rfl⟩
          have hJp := p_justify hp2d hbb (by omega) id hid j A c (Kd.C_below (Kd.F_now hFA) hdr) (by omega)
          have hJr : ∀ w3, Stp (· = M) w2.drew w3 → Calls Try.prog 22 #[.pointer (some ⟨R, 0, none⟩), .int .i64 id, .agg #[.int .i64 j.f0, .slice Aj j.f1.length cj]] w3 fun e w' => ∃ rows', e = .returned (.bool (bjust b id j).2) ∧ RefP w' (grw Q w3 w') R rows' ∧ Stp Q w3 w' ∧ Corr (bjust b id j).1 rows' ∧ RBnd (n + 1) rows' := fun w3 hs3 =>
            t_justify (hr2d.stp hs3 (fun i hi e => HAP.out M hp2.pM (e ▸ hi))) hcor hbnd (by omega) id hid j Aj cj (fun i => okj i ∧ i < w.heap.size) (Kd.F_step (Kd.F_below hFj2 hdr) (fun i hi hlt => hs3.block i hlt (fun e => HJP.out i hi.1 (e ▸ hp2.pM)))) hcj hjl HJZ.out (fun i hi => HJQ.out i hi.1)
          rw [← hq] at hJp hJr
          have HJp := Lib.hid hJp
          have HJr := Lib.hid hJr
          have HQQ := Lib.hid hq
          clear hJp hJr hq
          have hSS : ∀ w3 (S : Nat → Prop), Stp S w2.drew w3 → ¬ S w.heap.size → ¬ S J → Hid (w3.cell? ⟨w.heap.size, 1, none⟩ = some (.int .i64 id) ∧ w3.cell? ⟨w.heap.size, 2, none⟩ = some (.int .i64 j.f0) ∧ w3.cell? ⟨w.heap.size, 3, none⟩ = some (.slice Aj j.f1.length cj) ∧ w3.cell? ⟨J, 0, none⟩ = some (.int .i64 j.f0) ∧ w3.cell? ⟨J, 1, none⟩ = some (.slice A j.f1.length c)) := by
            intro w3 S hs h1 h2
            have e1 := hs.keep (g := w.heap.size) HO2.out h1
            have e2 := hs.keep (g := J) HJ2.out h2
            exact Lib.hid ⟨by rw [cell_blk e1]; rfl, by rw [cell_blk e1]; rfl, by rw [cell_blk e1]; rfl, by rw [cell_blk e2]; rfl, by rw [cell_blk e2]; rfl⟩
          have hMn : M < w.heap.size := HPW.out _ hp2.pM
          cases q with
          | true =>
            go_wp2_with fail
            go_region_held3 (fun w' => w'.cell? ⟨w.heap.size, 1, none⟩ = some (.int .i64 id) ∧ w'.cell? ⟨w.heap.size, 2, none⟩ = some (.int .i64 j.f0) ∧ w'.cell? ⟨w.heap.size, 3, none⟩ = some (.slice Aj j.f1.length cj) ∧ w'.cell? ⟨J, 0, none⟩ = some (.int .i64 j.f0) ∧ w'.cell? ⟨J, 1, none⟩ = some (.slice A j.f1.length c))
              (first | go_keep | exact HS4.out | exact HS3.out)
              (first
                | (go_at_call 19; refine (HJp.out).mono ?_; rintro e w3 ⟨rfl, hp3, hs3⟩; have HS3 := hSS w3 _ hs3 (fun e => by omega) (fun e => by omega); have hz3 := hs3.size)
                | (go_at_call 22; refine (HJr.out w3 hs3).mono ?_; rintro e w4 ⟨rows4, rfl, hr4, hs4, hc4, hb4⟩; have HS4 := hSS w4 (fun i => i = M ∨ Q i) (hs3.mono (fun _ _ h => .inl h) |>.trans hs4 (fun _ _ h => .inr h)) (fun h => h.elim (fun e => by omega) (fun h => by have := HQW.out _ h; omega)) (fun h => h.elim (fun e => by omega) (fun h => by have := HQW.out _ h; omega))))
            all_goals
              go_wp2_with fail
              go_meet
              exact mid_two hp2.lt hr2.lt HAP.out hp3 (fun i hi => hi) (((Stp.refl P w2).drew).trans (hp2.turned (W := w2) hs3) (fun _ _ h => h)) hr4 hs4 hc4 hb4
          | false =>
            go_wp2_with fail
            go_region_held3 (fun w' => w'.cell? ⟨w.heap.size, 1, none⟩ = some (.int .i64 id) ∧ w'.cell? ⟨w.heap.size, 2, none⟩ = some (.int .i64 j.f0) ∧ w'.cell? ⟨w.heap.size, 3, none⟩ = some (.slice Aj j.f1.length cj) ∧ w'.cell? ⟨J, 0, none⟩ = some (.int .i64 j.f0) ∧ w'.cell? ⟨J, 1, none⟩ = some (.slice A j.f1.length c))
              (first | go_keep | exact HS4.out | exact HS3.out)
              (first
                | (go_at_call 19; refine (HJp.out).mono ?_; rintro e w3 ⟨rfl, hp3, hs3⟩; have HS3 := hSS w3 _ hs3 (fun e => by omega) (fun e => by omega); have hz3 := hs3.size)
                | (go_at_call 22; refine (HJr.out w3 hs3).mono ?_; rintro e w4 ⟨rows4, rfl, hr4, hs4, hc4, hb4⟩; have HS4 := hSS w4 (fun i => i = M ∨ Q i) (hs3.mono (fun _ _ h => .inl h) |>.trans hs4 (fun _ _ h => .inr h)) (fun h => h.elim (fun e => by omega) (fun h => by have := HQW.out _ h; omega)) (fun h => h.elim (fun e => by omega) (fun h => by have := HQW.out _ h; omega))))
            all_goals
              go_wp2_with fail
              go_meet
              exact mid_two hp2.lt hr2.lt HAP.out hp3 (fun i hi => hi) (((Stp.refl P w2).drew).trans (hp2.turned (W := w2) hs3) (fun _ _ h => h)) hr4 hs4 hc4 hb4
        · have q2 : (kd == 2) = false := by simpa using k2
          by_cases k3 : kd = 3
          · subst k3
            clear k1 q1 k2 q2
            have hdr : Below w2.heap.size w2 w2.drew := (Below.refl _ _).drew
            have hp2d := hp2.below hdr
            have hr2d := hr2.below hdr
            have hJp := p_withdraw hp2d hbb (by omega) j A c (fun i => (w1.heap.size ≤ i ∧ i ≠ J) ∧ i < w2.heap.size) (Kd.F_below hFA hdr) (fun i hi h => by have := HPW.out i h; omega)
            have hJr : ∀ w3, Stp (· = M) w2.drew w3 → Calls Try.prog 24 #[.pointer (some ⟨R, 0, none⟩), .agg #[.int .i64 j.f0, .slice Aj j.f1.length cj]] w3 fun e w' => ∃ A c, e = .returned (.slice A (bout b j).length c) ∧ Kd.N ki 3 w' w3.heap.size (fun i => w3.heap.size ≤ i) (.slice A (bout b j).length c) (bout b j) ∧ RefP w' (grw Q w3 w') R (rwd rows j) ∧ Stp Q w3 w' ∧ Corr (bwd b j) (rwd rows j) ∧ RBnd n (rwd rows j) := fun w3 hs3 =>
              t_withdraw (hr2d.stp hs3 (fun i hi e => HAP.out M hp2.pM (e ▸ hi))) hcor hbnd (by omega) j Aj cj (fun i => okj i ∧ i < w.heap.size) (Kd.F_step (Kd.F_below hFj2 hdr) (fun i hi hlt => hs3.block i hlt (fun e => HJP.out i hi.1 (e ▸ hp2.pM)))) hcj (fun i hi => HJQ.out i hi.1)
            have hlo : (bout b j).length ≤ 1000 := by
              have := bout_len b j b.length
              rw [List.take_length] at this
              have := hbb.len
              omega
            have hrow : ∀ A3 c3 A4 c4 w4, ki.C w4 A3 (bout b j).length (bout b j) → ki.C w4 A4 (bout b j).length (bout b j) → (bout b j).length ≤ c3 → (bout b j).length ≤ c4 → Calls Try.prog 11 #[.slice A3 (bout b j).length c3, .slice A4 (bout b j).length c4] w4 fun e w' => e = .returned (.int .i64 0) ∧ Drawn0 w4 w' := fun A3 c3 A4 c4 w4 h3 h4 hc3 hc4 => by
              have := rows_any A3 A4 c3 c4 (bout b j) (bout b j) w4 h3 h4 hc3 hc4 (by omega)
              rw [lexc_refl] at this
              exact this
            have HJp := Lib.hid hJp
            have HJr := Lib.hid hJr
            have HROW := Lib.hid hrow
            clear hJp hJr hrow
            have hSS : ∀ w3 (S : Nat → Prop), Stp S w2.drew w3 → ¬ S w.heap.size → ¬ S J → Hid (w3.cell? ⟨w.heap.size, 1, none⟩ = some (.int .i64 id) ∧ w3.cell? ⟨w.heap.size, 2, none⟩ = some (.int .i64 j.f0) ∧ w3.cell? ⟨w.heap.size, 3, none⟩ = some (.slice Aj j.f1.length cj) ∧ w3.cell? ⟨J, 0, none⟩ = some (.int .i64 j.f0) ∧ w3.cell? ⟨J, 1, none⟩ = some (.slice A j.f1.length c)) := by
              intro w3 S hs h1 h2
              have e1 := hs.keep (g := w.heap.size) HO2.out h1
              have e2 := hs.keep (g := J) HJ2.out h2
              exact Lib.hid ⟨by rw [cell_blk e1]; rfl, by rw [cell_blk e1]; rfl, by rw [cell_blk e1]; rfl, by rw [cell_blk e2]; rfl, by rw [cell_blk e2]; rfl⟩
            have hMn : M < w.heap.size := HPW.out _ hp2.pM
            go_wp2_with fail
            go_region_held3 (fun w' => w'.cell? ⟨w.heap.size, 1, none⟩ = some (.int .i64 id) ∧ w'.cell? ⟨w.heap.size, 2, none⟩ = some (.int .i64 j.f0) ∧ w'.cell? ⟨w.heap.size, 3, none⟩ = some (.slice Aj j.f1.length cj) ∧ w'.cell? ⟨J, 0, none⟩ = some (.int .i64 j.f0) ∧ w'.cell? ⟨J, 1, none⟩ = some (.slice A j.f1.length c))
              (first | go_keep | exact HS4.out | exact HS3.out)
              (first
                | (go_at_call 23; refine (HJp.out).mono ?_; rintro e w3 ⟨A3, c3, rfl, hN3, hp3, hs3⟩; have HS3 := hSS w3 _ hs3 (fun e => by omega) (fun e => by omega); have hz3 := hs3.size)
                | (go_at_call 24; refine (HJr.out w3 hs3).mono ?_; rintro e w4 ⟨A4, c4, rfl, hN4, hr4, hs4, hc4, hb4⟩; have HS4 := hSS w4 (fun i => i = M ∨ Q i) (hs3.mono (fun _ _ h => .inl h) |>.trans hs4 (fun _ _ h => .inr h)) (fun h => h.elim (fun e => by omega) (fun h => by have := HQW.out _ h; omega)) (fun h => h.elim (fun e => by omega) (fun h => by have := HQW.out _ h; omega)); have hN34 := Kd.N_step hN3 (fun i hi hlt => hs4.block i hlt (fun h => by have := HQW.out _ h; have : w2.drew.heap.size = w2.heap.size := rfl; omega)); have h34 := Kd.N_reads' hN34; have h44 := Kd.N_reads' hN4)
                | (go_at_call 11; refine (HROW.out A3 c3 A4 c4 w4 h34.2.2 h44.2.2 h34.2.1 h44.2.1).mono ?_; rintro e w5 ⟨rfl, ⟨⟨n5, rfl⟩⟩⟩))
            all_goals
              go_wp2_with fail
              go_meet
              exact mid_two hp2.lt hr2.lt HAP.out hp3 (fun i hi => hi) (((Stp.refl P w2).drew).trans (hp2.turned (W := w2) hs3) (fun _ _ h => h)) (hr4.below (pw_below_drewN (Below.refl _ _) n5)) (hs4.drewN n5) hc4 (hb4.up (Nat.le_succ n))
          · have q3 : (kd == 3) = false := by simpa using k3
            by_cases k4 : kd = 4
            · subst k4
              clear k1 q1 k2 q2 k3 q3
              have hdr : Below w2.heap.size w2 w2.drew := (Below.refl _ _).drew
              have hp2d := hp2.below hdr
              have hr2d := hr2.below hdr
              obtain ⟨q, hq⟩ : ∃ q, q = (bfind b id).isSome := ⟨_, rfl⟩
              have hJp := p_drop hp2d id hid
              have hJr : ∀ w3, Stp (· = M) w2.drew w3 → Calls Try.prog 25 #[.pointer (some ⟨R, 0, none⟩), .int .i64 id] w3 fun e w' => ∃ rows', e = .returned (.bool (bfind b id).isSome) ∧ RefP w' (grw Q w3 w') R rows' ∧ Stp Q w3 w' ∧ Corr (bdel b id) rows' ∧ RBnd n rows' := fun w3 hs3 =>
                t_drop (hr2d.stp hs3 (fun i hi e => HAP.out M hp2.pM (e ▸ hi))) hcor hbnd (by omega) id
              rw [← hq] at hJp hJr
              have HJp := Lib.hid hJp
              have HJr := Lib.hid hJr
              have HQQ := Lib.hid hq
              clear hJp hJr hq
              have hSS : ∀ w3 (S : Nat → Prop), Stp S w2.drew w3 → ¬ S w.heap.size → ¬ S J → Hid (w3.cell? ⟨w.heap.size, 1, none⟩ = some (.int .i64 id) ∧ w3.cell? ⟨w.heap.size, 2, none⟩ = some (.int .i64 j.f0) ∧ w3.cell? ⟨w.heap.size, 3, none⟩ = some (.slice Aj j.f1.length cj) ∧ w3.cell? ⟨J, 0, none⟩ = some (.int .i64 j.f0) ∧ w3.cell? ⟨J, 1, none⟩ = some (.slice A j.f1.length c)) := by
                intro w3 S hs h1 h2
                have e1 := hs.keep (g := w.heap.size) HO2.out h1
                have e2 := hs.keep (g := J) HJ2.out h2
                exact Lib.hid ⟨by rw [cell_blk e1]; rfl, by rw [cell_blk e1]; rfl, by rw [cell_blk e1]; rfl, by rw [cell_blk e2]; rfl, by rw [cell_blk e2]; rfl⟩
              have hMn : M < w.heap.size := HPW.out _ hp2.pM
              cases q with
              | true =>
                go_wp2_with fail
                go_region_held3 (fun w' => w'.cell? ⟨w.heap.size, 1, none⟩ = some (.int .i64 id) ∧ w'.cell? ⟨w.heap.size, 2, none⟩ = some (.int .i64 j.f0) ∧ w'.cell? ⟨w.heap.size, 3, none⟩ = some (.slice Aj j.f1.length cj) ∧ w'.cell? ⟨J, 0, none⟩ = some (.int .i64 j.f0) ∧ w'.cell? ⟨J, 1, none⟩ = some (.slice A j.f1.length c))
                  (first | go_keep | exact HS4.out | exact HS3.out)
                  (first
                    | (go_at_call 20; refine (HJp.out).mono ?_; rintro e w3 ⟨rfl, hp3, hs3⟩; have HS3 := hSS w3 _ hs3 (fun e => by omega) (fun e => by omega); have hz3 := hs3.size)
                    | (go_at_call 25; refine (HJr.out w3 hs3).mono ?_; rintro e w4 ⟨rows4, rfl, hr4, hs4, hc4, hb4⟩; have HS4 := hSS w4 (fun i => i = M ∨ Q i) (hs3.mono (fun _ _ h => .inl h) |>.trans hs4 (fun _ _ h => .inr h)) (fun h => h.elim (fun e => by omega) (fun h => by have := HQW.out _ h; omega)) (fun h => h.elim (fun e => by omega) (fun h => by have := HQW.out _ h; omega))))
                all_goals
                  go_wp2_with fail
                  go_meet
                  exact mid_two hp2.lt hr2.lt HAP.out hp3 (fun i hi => .inl hi) (((Stp.refl P w2).drew).trans (hp2.turned (W := w2) hs3) (fun _ _ h => h)) hr4 hs4 hc4 (hb4.up (Nat.le_succ n))
              | false =>
                go_wp2_with fail
                go_region_held3 (fun w' => w'.cell? ⟨w.heap.size, 1, none⟩ = some (.int .i64 id) ∧ w'.cell? ⟨w.heap.size, 2, none⟩ = some (.int .i64 j.f0) ∧ w'.cell? ⟨w.heap.size, 3, none⟩ = some (.slice Aj j.f1.length cj) ∧ w'.cell? ⟨J, 0, none⟩ = some (.int .i64 j.f0) ∧ w'.cell? ⟨J, 1, none⟩ = some (.slice A j.f1.length c))
                  (first | go_keep | exact HS4.out | exact HS3.out)
                  (first
                    | (go_at_call 20; refine (HJp.out).mono ?_; rintro e w3 ⟨rfl, hp3, hs3⟩; have HS3 := hSS w3 _ hs3 (fun e => by omega) (fun e => by omega); have hz3 := hs3.size)
                    | (go_at_call 25; refine (HJr.out w3 hs3).mono ?_; rintro e w4 ⟨rows4, rfl, hr4, hs4, hc4, hb4⟩; have HS4 := hSS w4 (fun i => i = M ∨ Q i) (hs3.mono (fun _ _ h => .inl h) |>.trans hs4 (fun _ _ h => .inr h)) (fun h => h.elim (fun e => by omega) (fun h => by have := HQW.out _ h; omega)) (fun h => h.elim (fun e => by omega) (fun h => by have := HQW.out _ h; omega))))
                all_goals
                  go_wp2_with fail
                  go_meet
                  exact mid_two hp2.lt hr2.lt HAP.out hp3 (fun i hi => .inl hi) (((Stp.refl P w2).drew).trans (hp2.turned (W := w2) hs3) (fun _ _ h => h)) hr4 hs4 hc4 (hb4.up (Nat.le_succ n))
            · have q4 : (kd == 4) = false := by simpa using k4
              by_cases k5 : kd = 5
              · subst k5
                clear k1 q1 k2 q2 k3 q3 k4 q4
                have HJp := Lib.hid (p_copy hp2)
                have hMn : M < w.heap.size := HPW.out _ hp2.pM
                have hcells : ∀ w3 (S : Nat → Prop), Stp S w2 w3 → ¬ S w.heap.size → ¬ S J → Hid (w3.cell? ⟨w.heap.size, 1, none⟩ = some (.int .i64 id) ∧ w3.cell? ⟨J, 0, none⟩ = some (.int .i64 j.f0) ∧ w3.cell? ⟨J, 1, none⟩ = some (.slice A j.f1.length c)) := by
                  intro w3 S hs h1 h2
                  have e1 := hs.keep HO2.out h1
                  have e2 := hs.keep HJ2.out h2
                  exact Lib.hid ⟨by rw [cell_blk e1]; rfl, by rw [cell_blk e2]; rfl, by rw [cell_blk e2]; rfl⟩
                go_wp2_with (first
                  | (go_at_call 26; refine (HJp.out).mono ?_; rintro e w3 ⟨rfl, hpc, hb23⟩; have hz3 := hb23.size; have H3 := hcells w3 (fun _ => False) (Stp.of_below hb23) (fun h => h) (fun h => h); have c31 := H3.out.1)
                  | (go_at_call 20; refine (p_drop (hp2.below hb23) id hid).mono ?_; rintro e w4 ⟨rfl, hp4, hs34⟩; have hz4 := hs34.size; have hs24 : Stp (· = M) w2 w4 := (Stp.of_below (S := (· = M)) hb23).trans hs34 (fun _ _ h => h); have H4 := hcells w4 (· = M) hs24 (fun e => by omega) (fun e => by omega); have c41 := H4.out.2.1; have c42 := H4.out.2.2; have hF4 := Kd.F_step hFA (fun i hi hlt => hs24.block i hlt (fun e => by omega)))
                  | (go_at_call 23; refine (p_withdraw hp4 (hbb.del id) (by omega) j A c _ hF4 (fun i hi h => by have := HPW.out i h; omega)).mono ?_; rintro e w5 ⟨A5, c5, rfl, hN5, hp5, hs45⟩; have hz5 := hs45.size; have hs25 : Stp (· = M) w2 w5 := hs24.trans hs45 (fun _ _ h => h))
                  | (go_at_call 27; refine (r_copy (hr2.stp hs25 (fun i hi e => HAP.out M hp2.pM (e ▸ hi))) hbnd (by omega)).mono ?_; rintro e w6 ⟨R6, rfl, hr6, hb56⟩))
                go_meet
                have hz6 := hb56.size
                have hpc5 : ProgB w5 (fun i => (P i ∧ i ≠ M) ∨ (w2.heap.size ≤ i ∧ i < w3.heap.size)) (w2.heap.size + 1) w2.heap.size b := (hpc.stp hs34 (fun i hi e => by rcases hi with h | h; exact h.2 e; omega)).stp hs45 (fun i hi e => by rcases hi with h | h; exact h.2 e; omega)
                refine ⟨w2.heap.size + 1, w2.heap.size, R6, b, rows, _, grw Q w5 w6, rfl, rfl, rfl, ⟨hpc5.below hb56, hr6, fun i hi hq => ?_, hcor, hbnd.up (Nat.le_succ n)⟩, ?_, fun i hi => ?_, fun i hi => ?_⟩
                · rcases hq with hq | hq
                  · rcases hi with h | h
                    · exact HAP.out i h.1 hq
                    · have := HQW.out i hq; omega
                  · rcases hi with h | h
                    · have := HPW.out i h.1; omega
                    · omega
                · exact (hs25.mono (S' := fun i => P i ∨ Q i) (fun i _ e => .inl (e ▸ hp2.pM))).trans (Stp.of_below (S := fun _ => False) hb56) (fun _ _ h => h.elim)
                · rcases hi with h | h
                  · exact .inl h.1
                  · exact .inr h.1
                · rcases hi with h | h
                  · exact .inl h
                  · exact .inr (by omega)
              · have q5 : (kd == 5) = false := by simpa using k5
                by_cases k6 : kd = 6
                · subst k6
                  clear k1 q1 k2 q2 k3 q3 k4 q4 k5 q5
                  have HJp := Lib.hid (p_copy hp2)
                  have hMn : M < w.heap.size := HPW.out _ hp2.pM
                  have hcells : ∀ w3 (S : Nat → Prop), Stp S w2 w3 → ¬ S w.heap.size → ¬ S J → Hid (w3.cell? ⟨w.heap.size, 1, none⟩ = some (.int .i64 id) ∧ w3.cell? ⟨J, 0, none⟩ = some (.int .i64 j.f0) ∧ w3.cell? ⟨J, 1, none⟩ = some (.slice A j.f1.length c)) := by
                    intro w3 S hs h1 h2
                    have e1 := hs.keep HO2.out h1
                    have e2 := hs.keep HJ2.out h2
                    exact Lib.hid ⟨by rw [cell_blk e1]; rfl, by rw [cell_blk e2]; rfl, by rw [cell_blk e2]; rfl⟩
                  have hbj := hbb.justify hid hjl HJZ.out
                  go_wp2_with (first
                    | (go_at_call 26; refine (HJp.out).mono ?_; rintro e w3 ⟨rfl, hpc, hb23⟩; have hz3 := hb23.size; have H3 := hcells w3 (fun _ => False) (Stp.of_below hb23) (fun h => h) (fun h => h); have c31 := H3.out.1; have c32 := H3.out.2.1; have c33 := H3.out.2.2; have hF3 := Kd.F_now (Kd.F_below hFA hb23))
                    | (go_at_call 19; refine (p_justify hpc hbb (by omega) id hid j A c hF3 (by omega)).mono ?_; rintro e w4 ⟨rfl, hp4, hs34⟩; have hz4 := hs34.size; have hs24 : Stp (· = w2.heap.size) w2 w4 := (Stp.of_below (S := (· = w2.heap.size)) hb23).trans hs34 (fun _ _ h => h); have H4 := hcells w4 _ hs24 (fun e => by omega) (fun e => by omega); have c41 := H4.out.1)
                    | (go_at_call 18; refine (p_plain hp4 hbj (by omega) id hid).mono ?_; rintro e w5 ⟨rfl, hp5, hs45⟩; have hz5 := hs45.size; have hs25 : Stp (· = w2.heap.size) w2 w5 := hs24.trans hs45 (fun _ _ h => h); have H5 := hcells w5 _ hs25 (fun e => by omega) (fun e => by omega); have c51 := H5.out.2.1; have c52 := H5.out.2.2; have hF5 := Kd.F_step hFA (fun i hi hlt => hs25.block i hlt (fun e => by omega)))
                    | (go_at_call 23; refine (p_withdraw hp5 (hbj.plain hid) (by omega) j A c _ hF5 (fun i hi h => by
                        rcases h with h | h
                        · rcases h with h | h
                          · have := HPW.out i h.1; omega
                          · omega
                        · omega)).mono ?_; rintro e w6 ⟨A6, c6, rfl, hN6, hp6, hs56⟩; have hs26 : Stp (· = w2.heap.size) w2 w6 := hs25.trans hs56 (fun _ _ h => h)))
                  go_meet
                  refine ⟨B, M, R, b, rows, P, Q, rfl, rfl, rfl, ⟨hp2.stp hs26 (fun i hi e => by have := hp2.lt i hi; omega), hr2.stp hs26 (fun i hi e => by have := hr2.lt i hi; omega), HAP.out, hcor, hbnd.up (Nat.le_succ n)⟩, ?_, fun i hi => .inl hi, fun i hi => .inl hi⟩
                  exact hs26.mono (fun i hlt e => by omega)
                · have q6 : (kd == 6) = false := by simpa using k6
                  go_wp2
                  go_meet
                  exact ⟨B, M, R, b, rows, P, Q, rfl, rfl, rfl, ⟨hp2, hr2, HAP.out, hcor, hbnd.up (Nat.le_succ n)⟩, Stp.refl _ _, fun i hi => .inl hi, fun i hi => .inl hi⟩
    case rest =>
      obtain ⟨B', M', R', b', rows', P', Q', rfl, rfl, rfl, h2, hs, hP', hQ'⟩ := hcut
      obtain ⟨w4, rfl⟩ : ∃ w4, w4 = wc := ⟨_, rfl⟩
      have hz4 := hs.size
      have hJ4 := hs.keep HJ2.out (fun h => h.elim (fun h => by have := HPW.out _ h; omega) (fun h => by have := HQW.out _ h; omega))
      have hN4 : Kd.N ki 3 w4 w1.heap.size (fun i => (w1.heap.size ≤ i ∧ i ≠ J) ∧ i < w2.heap.size) (.slice A j.f1.length c) j.f1 := Kd.N_step (Kd.N_bound hN) (fun i hi hlt => hs.block i hlt (fun h => h.elim (fun h => by have := HPW.out _ h; omega) (fun h => by have := HQW.out _ h; omega)))
      have jj14 : w4.cell? ⟨J, 1, none⟩ = some (.slice A j.f1.length c) := by rw [cell_blk hJ4]; rfl
      have HJ4 := Lib.hid hJ4
      clear hJ4
      go_wp2
      go_loopw [104] (fun vi W => ∃ (k : Nat) (l : List Int), k ≤ j.f1.length ∧ vi = .int .i64 k ∧ l.length = j.f1.length ∧ Kd.N ki 3 W w1.heap.size (fun i => (w1.heap.size ≤ i ∧ i ≠ J) ∧ i < w2.heap.size) (.slice A j.f1.length c) l ∧ Stp (fun i => (w1.heap.size ≤ i ∧ i ≠ J) ∧ i < w2.heap.size) w4 W) (fun vi _ => j.f1.length - (intOf vi).toNat)
      case atStart => exact ⟨0, j.f1, Nat.zero_le _, rfl, rfl, hN4, Stp.refl _ _⟩
      case round =>
        obtain ⟨k, l, hk, rfl, hl, hNl, hsl⟩ := hrel
        have hJr := hsl.keep HJ4.out (fun h => h.1.2 rfl)
        have jj1r : wr.cell? ⟨J, 1, none⟩ = some (.slice A j.f1.length c) := by rw [cell_blk hJr]; rfl
        have HLL := Lib.hid hl
        clear hJr hl
        by_cases hlt : k < j.f1.length
        · have hll := HLL.out
          have hkl : k < l.length := by omega
          obtain ⟨g, cap, he, hg1, hg2, _⟩ := Kd.N_form hNl (by omega)
          have hAg : A = some ⟨g, 0, none⟩ := by injection he
          subst hAg
          have hgo := hNl.1 g rfl
          obtain ⟨cs, hcs, hFK, hcell, hfz⟩ := Kd.N_elem hNl 0 (k : Int) (by omega) (by omega)
          have hcv : cs = [.int .i64 (l.getD (k : Int).toNat 0)] := Kd.FK_now hFK
          subst hcv
          have HCE := Lib.hid hcell
          clear hcell hfz hll he hFK
          go_wp2_with (refine gate_ (.store 3 (.tmp 110) (.const (.int .i64 (-1)))) rfl ?_; refine Kd.N_store (w0 := wr) ki w1.heap.size rfl rfl 3 _ _ rfl 3 (k : Int) 0 l (-1) (.int .i64 (-1)) [.int .i64 (-1)] _ (fun i => (w1.heap.size ≤ i ∧ i ≠ J) ∧ i < w2.heap.size) (fun _ => False) rfl (by show k = (k : Int).toNat * 1 + 0; omega) rfl rfl sz3 (by intro q hq; simp only [List.mem_cons, List.not_mem_nil, or_false] at hq; subst hq; rfl) hNl (by omega) (by omega) hcs HCE.out (Nat.le_refl 1) (fun W' _ => (rfl : [Value.int .i64 (-1)] = [Value.int .i64 (-1)])) (fun _ h => h.elim) (Below.refl _ _) ?_; intro w5 hN5 hB5 hG5)
          refine ⟨?rel0, ?measure⟩
          case rel0 =>
            exact ⟨k + 1, _, by omega, by go_num, by rw [List.length_set]; exact HLL.out, hN5, hsl.trans (Stp.of_grown hG5) (fun i hi e => by injection e with e; subst e; exact hgo)⟩
          case measure => simp [intOf]; omega
        · go_wp2
          go_ret3
          have hdP : ∀ i, P' i → ¬ ((w1.heap.size ≤ i ∧ i ≠ J) ∧ i < w2.heap.size) := fun i hi h => by
            rcases hP' i hi with h1 | h1
            · have := HPW.out _ h1; omega
            · omega
          have hdQ : ∀ i, Q' i → ¬ ((w1.heap.size ≤ i ∧ i ≠ J) ∧ i < w2.heap.size) := fun i hi h => by
            rcases hQ' i hi with h1 | h1
            · have := HQW.out _ h1; omega
            · omega
          unfold StepR
          refine ⟨B', M', R', b', rows', P', Q', rfl, ⟨h2.prog.stp hsl hdP, h2.ref.stp hsl hdQ, h2.apart, h2.corr, h2.bnd⟩, ?_, fun i hi => ?_, fun i hi => ?_⟩
          · refine ((Stp.of_below (S := fun i => P i ∨ Q i) hb2).trans hs (fun _ _ h => h)).trans hsl (fun i hi h => by omega)
          · rcases hP' i hi with h1 | h1
            · exact .inl h1
            · exact .inr (by omega)
          · rcases hQ' i hi with h1 | h1
            · exact .inl h1
            · exact .inr (by omega)
end Go.Proofs.Ytbmnefdiiibabaa
