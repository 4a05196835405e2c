import Derived.Test.YtbmnefdiiibabaaUI
namespace Go.Proofs.Ytbmnefdiiibabaa
set_option linter.unusedVariables false
set_option linter.unusedSimpArgs false
open Go.RowKit Go.Maps Go.Sort Go.Shelf Go.Proofs.YtbmnefdiiibabaaW.PrintWords Go.Proofs.YtbmnefdiiibabaaW.PrintMore PTruthPlays

/-! ### the two known books -/
theorem p_new (w : World) : Calls Try.prog 6 #[] w fun e w' => e = .returned (.pointer (some ⟨w.heap.size + 1, 0, none⟩)) ∧ ProgB w' (fun i => w.heap.size ≤ i ∧ i < w'.heap.size) (w.heap.size + 1) w.heap.size [] ∧ Below w.heap.size w w' := by
  refine (new_any w).mono ?_
  rintro e w' ⟨rfl, rfl⟩
  have hb : Below w.heap.size w ((w.alloc (.map #[] 0)).alloc (.cells #[.map (some w.heap.size)] 49)) := ((Below.refl _ _).alloc (Nat.le_refl _) _).alloc (by simp) _
  have h1 := World.ownsMap_made w Try.prog 3 heldR
  have h2 : ((w.alloc (.map #[] 0)).alloc (.cells #[.map (some w.heap.size)] 49)).ownsMap Try.prog 3 heldR w.heap.size 0 (.map []) := by
    obtain ⟨es, clock, hb, r⟩ := h1
    exact ⟨es, clock, heap_alloc_lt _ _ hb, r⟩
  refine ⟨rfl, ⟨?_, ⟨[], h2, trivial⟩, ⟨Nat.le_refl _, by simp; omega⟩, ⟨by omega, by simp⟩, fun i hi => hi.2⟩, hb⟩
  have := World.alloc_heap_new (w.alloc (.map #[] 0)) (.cells #[.map (some w.heap.size)] 49 (0, 0))
  simpa using this
theorem lit_N (W : World) (l : List Int) (h : l.length ≤ 1000) : Kd.N ki 3 (W.alloc (.cells (nums .i64 l).toArray 3)) W.heap.size (fun i => W.heap.size ≤ i) (.slice (some ⟨W.heap.size, 0, none⟩) l.length l.length) l :=
  own_N (own_lit W W.heap.size 3 .i64 l (Nat.le_refl _) (by omega))

def kb1 : List Ent := [(1, true, []), (2, false, [⟨0, [1]⟩]), (3, false, [⟨0, [2, 1]⟩])]
def kb2 : List Ent := [(2, false, [⟨0, [1]⟩]), (3, false, [⟨0, [2, 1]⟩])]
def kc2 : List Ent := [(1, false, [⟨0, [2]⟩]), (2, false, [⟨0, [1]⟩])]
theorem known_lost1 : lostL kb1 (fun _ => false) (kb1.map (·.1)) = [] := by
  rw [lostL_next (by decide), lostL_next (by decide), lostL_next (by decide), lostL_end (by decide)]; rfl
theorem known_lost2 : lostL kb2 (fun _ => false) (kb2.map (·.1)) = [2, 3] := by
  rw [lostL_end (by decide)]; rfl
theorem known_lost3 : lostL kc2 (fun _ => false) (kc2.map (·.1)) = [1, 2] := by
  rw [lostL_end (by decide)]; rfl
theorem known_b1 : bput [] 1 (true, (bget [] 1).2) = [(1, true, [])] := by rfl
theorem known_b2 : (bjust [(1, true, [])] 2 ⟨0, [1]⟩).1 = [(1, true, []), (2, false, [⟨0, [1]⟩])] := by rfl
theorem known_b3 : (bjust [(1, true, []), (2, false, [⟨0, [1]⟩])] 3 ⟨0, [2, 1]⟩).1 = kb1 := by rfl
theorem known_b4 : bdel kb1 1 = kb2 := by rfl
theorem known_c1 : (bjust [] 1 ⟨0, [2]⟩).1 = [(1, false, [⟨0, [2]⟩])] := by rfl
theorem known_c2 : (bjust [(1, false, [⟨0, [2]⟩])] 2 ⟨0, [1]⟩).1 = kc2 := by rfl
theorem i64_small (k : Int) (h0 : 0 ≤ k) (h1 : k ≤ 100) : i64r k := ⟨by omega, by omega⟩
theorem small_bnd {b : List Ent} (h : b.length ≤ 10 ∧ ∀ x ∈ b, (0 ≤ x.1 ∧ x.1 ≤ 100) ∧ x.2.2.length ≤ 10 ∧ ∀ y ∈ x.2.2, y.f1.length ≤ 20 ∧ ∀ z ∈ y.f1, 0 ≤ z ∧ z ≤ 100) : BBnd 10 b :=
  ⟨h.1, fun x hx => i64_small _ (h.2 x hx).1.1 (h.2 x hx).1.2, fun x hx => (h.2 x hx).2.1, fun x hx y hy => ⟨((h.2 x hx).2.2 y hy).1, fun z hz => i64_small _ (((h.2 x hx).2.2 y hy).2 z hz).1 (((h.2 x hx).2.2 y hy).2 z hz).2⟩⟩

/-- both of them -/
def Both (n0 n1 : Nat) (W : World) (b c : List Ent) : Prop := ∃ Pb Pc, ProgB W Pb (n0 + 1) n0 b ∧ ProgB W Pc (n1 + 1) n1 c ∧ (∀ i, Pb i → i ≠ n1) ∧ (∀ i, Pc i → i ≠ n0) ∧ n0 < W.heap.size ∧ n1 < W.heap.size
theorem Both.below {n0 n1 : Nat} {W W' : World} {b c : List Ent} (h : Both n0 n1 W b c) (hb : Below W.heap.size W W') : Both n0 n1 W' b c := by
  obtain ⟨Pb, Pc, h1, h2, d1, d2, l1, l2⟩ := h
  have := hb.size
  exact ⟨Pb, Pc, h1.below hb, h2.below hb, d1, d2, by omega, by omega⟩
theorem Both.left {n0 n1 : Nat} {W : World} {b c : List Ent} (h : Both n0 n1 W b c) : ∃ P, ProgB W P (n0 + 1) n0 b ∧ ∀ P' W' b', ProgB W' P' (n0 + 1) n0 b' → (∀ i, P' i → P i ∨ W.heap.size ≤ i) → Stp (· = n0) W W' → Both n0 n1 W' b' c := by
  obtain ⟨Pb, Pc, h1, h2, d1, d2, l1, l2⟩ := h
  refine ⟨Pb, h1, fun P' W' b' h hP hs => ⟨P', Pc, h, h2.stp hs (fun i hi e => d2 i hi e), fun i hi => ?_, d2, by have := hs.size; omega, by have := hs.size; omega⟩⟩
  rcases hP i hi with h | h
  · exact d1 i h
  · omega
theorem Both.right {n0 n1 : Nat} {W : World} {b c : List Ent} (h : Both n0 n1 W b c) : ∃ P, ProgB W P (n1 + 1) n1 c ∧ ∀ P' W' c', ProgB W' P' (n1 + 1) n1 c' → (∀ i, P' i → P i ∨ W.heap.size ≤ i) → Stp (· = n1) W W' → Both n0 n1 W' b c' := by
  obtain ⟨Pb, Pc, h1, h2, d1, d2, l1, l2⟩ := h
  refine ⟨Pc, h2, fun P' W' b' h hP hs => ⟨Pb, P', h1.stp hs (fun i hi e => d1 i hi e), h, d1, fun i hi => ?_, by have := hs.size; omega, by have := hs.size; omega⟩⟩
  rcases hP i hi with h | h
  · exact d2 i h
  · omega
theorem grw_or {P : Nat → Prop} {W W' : World} : ∀ i, grw P W W' i → P i ∨ W.heap.size ≤ i := fun i hi => hi.imp (fun h => h) (fun h => h.1)
/-- a justification by a tuple that is written there -/
theorem k_left {n0 n1 : Nat} {W : World} {b c b' : List Ent} {k : Int} (l : List Int) (h : Both n0 n1 W b c) (hb : BBnd 10 b) (hk : i64r k) (hl : l.length ≤ 20) (he : (bjust b k ⟨0, l⟩).1 = b') :
    Calls Try.prog 19 #[.pointer (some ⟨n0 + 1, 0, none⟩), .int .i64 k, .agg #[.int .i64 0, .slice (some ⟨W.heap.size, 0, none⟩) l.length l.length]] (W.alloc (.cells (nums .i64 l).toArray 3)) fun e w' => ∃ q, e = .returned (.bool q) ∧ Both n0 n1 w' b' c ∧ Stp (· = n0) W w' := by
  have hbl : Below W.heap.size W (W.alloc (.cells (nums .i64 l).toArray 3)) := (Below.refl _ _).alloc (Nat.le_refl _) _
  obtain ⟨P, hp, hnext⟩ := (h.below hbl).left
  have hN := lit_N W l (by omega)
  refine (p_justify hp hb (by omega) k hk ⟨0, l⟩ _ _ (Kd.F_now (Kd.N_F hN)) hl).mono ?_
  rintro e w' ⟨rfl, hp', hs⟩
  rw [he] at hp'
  exact ⟨_, rfl, hnext _ _ _ hp' grw_or hs, (Stp.of_below (S := (· = n0)) hbl).trans hs (fun _ _ h => h)⟩
theorem k_right {n0 n1 : Nat} {W : World} {b c c' : List Ent} {k : Int} (l : List Int) (h : Both n0 n1 W b c) (hb : BBnd 10 c) (hk : i64r k) (hl : l.length ≤ 20) (he : (bjust c k ⟨0, l⟩).1 = c') :
    Calls Try.prog 19 #[.pointer (some ⟨n1 + 1, 0, none⟩), .int .i64 k, .agg #[.int .i64 0, .slice (some ⟨W.heap.size, 0, none⟩) l.length l.length]] (W.alloc (.cells (nums .i64 l).toArray 3)) fun e w' => ∃ q, e = .returned (.bool q) ∧ Both n0 n1 w' b c' ∧ Stp (· = n1) W w' := by
  have hbl : Below W.heap.size W (W.alloc (.cells (nums .i64 l).toArray 3)) := (Below.refl _ _).alloc (Nat.le_refl _) _
  obtain ⟨P, hp, hnext⟩ := (h.below hbl).right
  have hN := lit_N W l (by omega)
  refine (p_justify hp hb (by omega) k hk ⟨0, l⟩ _ _ (Kd.F_now (Kd.N_F hN)) hl).mono ?_
  rintro e w' ⟨rfl, hp', hs⟩
  rw [he] at hp'
  exact ⟨_, rfl, hnext _ _ _ hp' grw_or hs, (Stp.of_below (S := (· = n1)) hbl).trans hs (fun _ _ h => h)⟩
theorem k_rows (A : Option Addr) (c : Nat) (l : List Int) (W : World) (hC : ki.C W A l.length l) (hc : l.length ≤ c) (hl : l.length ≤ 1000) :
    Calls Try.prog 11 #[.slice A l.length c, .slice (some ⟨W.heap.size, 0, none⟩) l.length l.length] (W.alloc (.cells (nums .i64 l).toArray 3)) fun e w' => e = .returned (.int .i64 0) ∧ Below W.heap.size W w' := by
  have hbl : Below W.heap.size W (W.alloc (.cells (nums .i64 l).toArray 3)) := (Below.refl _ _).alloc (Nat.le_refl _) _
  have := rows_any A (some ⟨W.heap.size, 0, none⟩) c l.length l l _ (Kd.C_below hC hbl) (Kd.F_now (Kd.N_F (lit_N W l hl))) hc (Nat.le_refl _) (by omega)
  rw [lexc_refl] at this
  refine this.mono ?_
  rintro e w' ⟨rfl, hd⟩
  exact ⟨rfl, hbl.trans (hd.below.mono (by simp))⟩

set_option maxRecDepth 100000 in
set_option maxHeartbeats 4000000 in
theorem known_any (w : World) : Calls Try.prog 5 #[] w fun e w' => e = .returned (.bool true) ∧ Below w.heap.size w w' := by
  go_enter Try.func5, Try.ntmps5
  go_wp2_with fail
  refine (p_new _).mono ?_
  rintro e w1 ⟨rfl, hb, hB1⟩
  have hz1 := hB1.size
  go_wp2_with fail
  refine (p_new _).mono ?_
  rintro e w2 ⟨rfl, hc, hB2⟩
  have hz2 := hB2.size
  have hw1 := hb.lt _ hb.pM
  have hw2 := hc.lt _ hc.pM
  have h2 : Both w.heap.size w1.heap.size w2 [] [] := ⟨_, _, hb.below hB2, hc, fun i hi => by omega, fun i hi => by omega, by omega, by omega⟩
  have hs2 : Stp (fun _ => False) w w2 := (Stp.of_below hB1).trans (Stp.of_below (S := fun _ => False) hB2) (fun _ _ h => h)
  clear hb hc
  obtain ⟨P, hp, hn⟩ := h2.left
  go_wp2_with fail
  refine (p_plain hp (n := 10) (by exact small_bnd (by decide)) (by omega) 1 (i64_small _ (by omega) (by omega))).mono ?_
  rintro e w3 ⟨rfl, hp3, hs3⟩
  have h3 := hn _ _ _ hp3 (fun i hi => .inl hi) hs3
  rw [known_b1] at h3
  clear hn hp hp3 h2
  go_wp2_with fail
  refine (k_left [1] h3 (by exact small_bnd (by decide)) (i64_small _ (by omega) (by omega)) (by decide) known_b2).mono ?_
  rintro e w4 ⟨q4, rfl, h4, hs4⟩
  clear h3
  go_wp2_with fail
  refine (k_left [2, 1] h4 (by exact small_bnd (by decide)) (i64_small _ (by omega) (by omega)) (by decide) known_b3).mono ?_
  rintro e w5 ⟨q5, rfl, h5, hs5⟩
  clear h4
  obtain ⟨P, hp, hn⟩ := h5.left
  go_wp2_with fail
  refine (p_lost hp (n := 10) (by exact small_bnd (by decide)) (by omega)).mono ?_
  rw [known_lost1]
  rintro e w6 ⟨A6, c6, rfl, hN6, hB6⟩
  have h6 := h5.below hB6
  clear hn hp h5
  obtain ⟨P, hp, hn⟩ := h6.left
  go_wp2_with fail
  refine (p_drop hp 1 (i64_small _ (by omega) (by omega))).mono ?_
  rintro e w7 ⟨rfl, hp7, hs7⟩
  have h7 := hn _ _ _ hp7 (fun i hi => .inl hi) hs7
  rw [known_b4] at h7
  clear hn hp hp7 h6
  go_wp2_with fail
  refine (k_right [2] h7 (by exact ⟨by simp, by simp, by simp, by simp⟩) (i64_small _ (by omega) (by omega)) (by decide) known_c1).mono ?_
  rintro e w8 ⟨q8, rfl, h8, hs8⟩
  clear h7
  go_wp2_with fail
  refine (k_right [1] h8 (by exact small_bnd (by decide)) (i64_small _ (by omega) (by omega)) (by decide) known_c2).mono ?_
  rintro e w9 ⟨q9, rfl, h9, hs9⟩
  clear h8
  go_wp2_with fail
  obtain ⟨P, hp, hn⟩ := h9.left
  refine (p_lost hp (n := 10) (by exact small_bnd (by decide)) (by omega)).mono ?_
  rw [known_lost2]
  rintro e w10 ⟨A10, c10, rfl, hN10, hB10⟩
  have h10 := h9.below hB10
  have hr10 := Kd.N_reads' hN10
  clear hn hp h9
  go_wp2_with fail
  refine (k_rows A10 c10 [2, 3] w10 hr10.2.2 hr10.2.1 (by decide)).mono ?_
  rintro e w11 ⟨rfl, hB11⟩
  have h11 := h10.below hB11
  clear h10 hr10
  obtain ⟨P, hp, hn⟩ := h11.right
  go_wp2_with fail
  refine (p_lost hp (n := 10) (by exact small_bnd (by decide)) (by omega)).mono ?_
  rw [known_lost3]
  rintro e w12 ⟨A12, c12, rfl, hN12, hB12⟩
  have hr12 := Kd.N_reads' hN12
  clear hn hp h11
  go_wp2_with fail
  refine (k_rows A12 c12 [1, 2] w12 hr12.2.2 hr12.2.1 (by decide)).mono ?_
  rintro e w13 ⟨rfl, hB13⟩
  go_wp2_with fail
  go_ret
  refine ⟨rfl, ?_⟩
  have s2 : Stp (fun i => i = w.heap.size ∨ i = w1.heap.size) w w2 := hs2.mono (fun _ _ h => h.elim)
  have s5 := ((s2.trans hs3 (fun _ _ h => .inl h)).trans hs4 (fun _ _ h => .inl h)).trans hs5 (fun _ _ h => .inl h)
  have s7 := (s5.below hB6).trans hs7 (fun _ _ h => .inl h)
  have s9 := (s7.trans hs8 (fun _ _ h => .inr h)).trans hs9 (fun _ _ h => .inr h)
  have s13 := (((s9.below hB10).below hB11).below hB12).below hB13
  exact s13.to_below (Nat.le_refl _) (fun i hi => by rcases hi with h | h <;> omega)
end Go.Proofs.Ytbmnefdiiibabaa
