import Derived.Test.YtbmnefdiiibabaaUK
import Derived.Test.YtbmnefdiiibabaaUJ
namespace Go.Proofs.Ytbmnefdiiibabaa
set_option linter.unusedVariables false
set_option linter.unusedSimpArgs false
open Go.RowKit Go.Maps Go.Sort Go.Shelf Go.Proofs.YtbmnefdiiibabaaW.PrintWords Go.Proofs.YtbmnefdiiibabaaW.PrintMore PTruthPlays

/-! ### more than is looked at -/
def grB (l : List S35) : Bool := l.any (fun o => decide (20 < o.f2.f1.length)) || decide (60 < l.length)
theorem rd35_at {l : List S35} {k : Nat} (hk : k < l.length) : rd_T35 l (k : Int) = l[k] := by
  unfold rd_T35
  simp [List.getD_eq_getElem?_getD, hk]
theorem wrap_succ' {k : Nat} (h : k < 9223372036854775807) : wrap64 ((k : Int) + 1) = ((k + 1 : Nat) : Int) := by
  simp [wrap64, IntKind.wrap, IntKind.bits, IntKind.signed]; omega
theorem great_l0 (l : List S35) (hl : l.length ≤ 9223372036854775807) : ∀ (n k fuel : Nat), l.length - k = n → k ≤ l.length → n < fuel → witanlaw29_great.l0 fuel l (l.length : Int) (k : Int) = some ((l.drop k).any (fun o => decide (20 < o.f2.f1.length)) || decide (60 < l.length)) := by
  intro n
  induction n with
  | zero =>
    intro k fuel hn hk hf
    obtain ⟨fuel, rfl⟩ : ∃ m, fuel = m + 1 := ⟨fuel - 1, by omega⟩
    unfold witanlaw29_great.l0
    rw [if_neg (by omega), List.drop_eq_nil_of_le (by omega)]
    have : decide ((l.length : Int) > 60) = decide (60 < l.length) := by rw [Bool.eq_iff_iff]; simp; omega
    rw [this]; rfl
  | succ n ih =>
    intro k fuel hn hk hf
    obtain ⟨fuel, rfl⟩ : ∃ m, fuel = m + 1 := ⟨fuel - 1, by omega⟩
    have hkl : k < l.length := by omega
    unfold witanlaw29_great.l0
    rw [if_pos (by omega), if_pos (by omega), if_pos (by omega), rd35_at hkl, List.drop_eq_getElem_cons hkl, List.any_cons]
    by_cases h : 20 < l[k].f2.f1.length
    · rw [if_pos (by omega), decide_eq_true h]; rfl
    · rw [if_neg (by omega), wrap_succ' (by omega), ih (k + 1) fuel (by omega) (by omega) (by omega), decide_eq_false h, Bool.false_or]
theorem great_any (A : Option Addr) (c : Nat) (l : List S35) (w : World) (hC : k35.C w A l.length l) (hc : l.length ≤ c) :
    Calls Try.prog 4 #[.slice A l.length c] w fun e w' => e = .returned (.bool (grB l)) ∧ Drawn0 w w' := by
  have h := great_l0 l (Kd.C_max hC) l.length 0 (l.length + 1) (by omega) (by omega) (by omega)
  rw [List.drop_zero] at h
  exact witanlaw29_great.calls (l.length + 1) A c l _ w hC hc h

/-! ### the same justifications -/
theorem rows_f_up (l m : List Int) (hl : l.length ≤ 1000000) (fuel : Nat) (hf : 2 * l.length + 2 ≤ fuel) : witanref26_Rows.f fuel l m = some (lexc l m) := by
  have := rows_l0 l m hl l.length 0 (fuel - (2 * l.length + 2)) (by omega) (by omega) (by omega)
  rw [show 2 * l.length + 2 + (fuel - (2 * l.length + 2)) = fuel by omega] at this
  simpa [witanref26_Rows.f] using this
theorem sameAll_l0 (l : List S33) (hl : l.length ≤ 1000) (ht : ∀ y ∈ l, y.f1.length ≤ 1000) : ∀ (n k fuel : Nat), l.length - k = n → k ≤ l.length → n + 3000 ≤ fuel → witanref29_SameAll.l0 fuel l l (k : Int) = some true := by
  intro n
  induction n with
  | zero =>
    intro k fuel hn hk hf
    obtain ⟨fuel, rfl⟩ : ∃ m, fuel = m + 1 := ⟨fuel - 1, by omega⟩
    unfold witanref29_SameAll.l0
    rw [if_neg (by omega)]
  | succ n ih =>
    intro k fuel hn hk hf
    obtain ⟨fuel, rfl⟩ : ∃ m, fuel = m + 1 := ⟨fuel - 1, by omega⟩
    have hkl : k < l.length := by omega
    have htk := ht _ (List.getElem_mem hkl)
    unfold witanref29_SameAll.l0
    rw [if_pos (by omega), if_pos (by omega), if_pos (by omega), rd33_at hkl]
    unfold witanref29_Same.f
    rw [if_pos rfl, rows_f_up _ _ (by omega) _ (by omega), lexc_refl]
    simp only [Option.bind_some, beq_self_eq_true, if_true]
    rw [wrap_succ (by omega)]
    exact ih (k + 1) fuel (by omega) (by omega) (by omega)
theorem sameAll_any (A B : Option Addr) (ca cb : Nat) (l : List S33) (w : World) (hA : k33.C w A l.length l) (hB : k33.C w B l.length l) (hca : l.length ≤ ca) (hcb : l.length ≤ cb) (hl : l.length ≤ 1000) (ht : ∀ y ∈ l, y.f1.length ≤ 1000) :
    Calls Try.prog 16 #[.slice A l.length ca, .slice B l.length cb] w fun e w' => e = .returned (.bool true) ∧ Below w.heap.size w w' := by
  refine witanref29_SameAll.calls (l.length + 3000) A ca l B cb l true w hA hca hB hcb ?_
  unfold witanref29_SameAll.f
  rw [if_pos rfl]
  exact sameAll_l0 l hl ht l.length 0 _ (by omega) (by omega) (Nat.le_refl _)

/-! ### the answer of Of, read and written over -/
theorem ofR_C {W : World} {base : Nat} {v : Value} {ys : List (S33 × Value)} (h : OfR W base v ys) (hl : ys.length ≤ 1000) : ∃ A c, v = .slice A (ys.map (·.1)).length c ∧ (ys.map (·.1)).length ≤ c ∧ k33.C W A (ys.map (·.1)).length (ys.map (·.1)) := by
  rcases h with ⟨rfl, rfl⟩ | ⟨G, c, rfl, hb, hc, ⟨cur, hG, hcell⟩, ht⟩
  · exact ⟨none, 0, rfl, Nat.le_refl _, Kd.C_nil _ _⟩
  · refine ⟨some ⟨G, 0, none⟩, c, by rw [List.length_map], by rw [List.length_map]; exact hc, rfl, by rw [List.length_map]; omega, fun hn => ⟨_, rfl, fun j p hj => ?_⟩⟩
    rw [List.getElem?_map] at hj
    obtain ⟨y, hy, rfl⟩ := Option.map_eq_some_iff.1 hj
    obtain ⟨hjl, rfl⟩ := List.getElem?_eq_some_iff.1 hy
    obtain ⟨h1, h2⟩ := hcell j hjl
    have hN := ht _ (List.getElem_mem hjl)
    obtain ⟨A1, c1, he⟩ := Kd.N_slice hN
    rw [he] at hN h2
    have hr := Kd.N_reads' hN
    refine ⟨[.int .i64 ys[j].1.f0, .slice A1 ys[j].1.f1.length c1], rfl, k33_mk W _ hr.2.1 hr.2.2, fun i u hu => ?_⟩
    have e : (⟨G, 0, none⟩ : Addr).add (j * k33.sz + i) = ⟨G, j * 2 + i, none⟩ := by rw [addp, Nat.zero_add]; rfl
    rw [e, cell_blk hG]
    rcases i with _ | _ | i
    · simp only [List.getElem?_cons_zero, Option.some.injEq] at hu
      rw [← hu]; exact h1
    · simp only [List.getElem?_cons_succ, List.getElem?_cons_zero, Option.some.injEq] at hu
      rw [← hu]; exact h2
    · simp at hu
theorem OfR.below {W W' : World} {base : Nat} {v : Value} {ys : List (S33 × Value)} (h : OfR W base v ys) (hb : Below W.heap.size W W') : OfR W' base v ys := by
  rcases h with ⟨rfl, rfl⟩ | ⟨G, c, rfl, h1, hc, ⟨cur, hG, hcell⟩, ht⟩
  · exact .inl ⟨rfl, rfl⟩
  · exact .inr ⟨G, c, rfl, h1, hc, ⟨cur, (hb.block _ (blk_lt' hG)).trans hG, hcell⟩, fun y hy => Kd.N_below (ht y hy) hb⟩
/-- a cell of a row of integers is written, in whatever row's block -/
theorem N_poke {W : World} {base g o : Nat} {ok : Nat → Prop} {v : Value} {l : List Int} (h : Kd.N ki 3 W base ok v l) (u : Int) : ∃ l', l'.length = l.length ∧ Kd.N ki 3 (W.setCell ⟨g, o, none⟩ (.int .i64 u)) base ok v l' := by
  by_cases hg : v.ownBlock = some g
  · obtain ⟨A, c, rfl⟩ := Kd.N_slice h
    have hl : ∃ g', A = some ⟨g', 0, none⟩ := by
      obtain ⟨h0, rows, hl, ⟨hr0, inner, ⟨hi1, hi2⟩, hr⟩, hf⟩ := h
      rcases hi2 with ⟨he, _⟩ | ⟨g', cap, cur, he, _⟩
      · injection he with he; subst he; simp [Value.ownBlock] at hg
      · injection he with he; exact ⟨g', he⟩
    obtain ⟨g', rfl⟩ := hl
    have e : g' = g := by simpa [Value.ownBlock] using hg
    subst e
    by_cases ho : o < l.length
    · obtain ⟨cs, hcs, hFK, hcell, hfz⟩ := Kd.N_elem h 0 (o : Int) (by omega) (by omega)
      have hcv : cs = [.int .i64 (l.getD (o : Int).toNat 0)] := Kd.FK_now hFK
      subst hcv
      have hs := (Kd.N_seg (okp := fun _ => False) (x' := u) h (o : Int) (by omega) (by omega) (c := [.int .i64 (l.getD (o : Int).toNat 0)]) (seg := [.int .i64 u]) (j := 0) rfl hcell (Nat.le_refl 1) (fun W' _ => (rfl : [Value.int .i64 u] = [Value.int .i64 u])) (fun _ h => h.elim)).1
      have e : W.setCells g' ((o : Int).toNat * ki.sz + 0) [.int .i64 u] = W.setCell ⟨g', o, none⟩ (.int .i64 u) := by
        show W.setCell ⟨g', (o : Int).toNat * 1 + 0, none⟩ (.int .i64 u) = _
        rw [Int.toNat_natCast, Nat.mul_one, Nat.add_zero]
      rw [e] at hs
      exact ⟨_, by rw [List.length_set], hs⟩
    · refine ⟨l, rfl, N_tail h ((Stp.refl (· = g') W).setCell (p := ⟨g', o, none⟩) (.inl rfl) _) (fun cur hcur => ⟨_, blk_set hcur o _, by simp, fun i hi => ?_⟩)⟩
      have hi2 : i < l.length := by
        have h1 : i < l.length * 1 := hi
        omega
      rw [Array.getElem?_setIfInBounds_ne (by omega)]
  · have h1 := N_ki_any (ok' := fun i => v.ownBlock = some i) h (fun i hi => hi)
    have h2 := Kd.N_far (p := ⟨g, o, none⟩) h1 (fun i hi e => hg (by rw [hi]; exact congrArg some e)) (.int .i64 u)
    exact ⟨l, rfl, N_ki_any h2 (fun i hi => h.1 i hi)⟩
/-- what stays of Of's answer when its tuples are written over -/
def keyP (y : S33 × Value) : Value × Nat := (y.2, y.1.f1.length)
theorem pokes {W : World} {base g o : Nat} {ok : Nat → Prop} (u : Int) : ∀ (ys : List (S33 × Value)), (∀ y ∈ ys, Kd.N ki 3 W base ok y.2 y.1.f1) → ∃ ys' : List (S33 × Value), ys'.map keyP = ys.map keyP ∧ ys'.map (·.1.f0) = ys.map (·.1.f0) ∧ ∀ y ∈ ys', Kd.N ki 3 (W.setCell ⟨g, o, none⟩ (.int .i64 u)) base ok y.2 y.1.f1
  | [], _ => ⟨[], rfl, rfl, by simp⟩
  | y :: ys, h => by
    obtain ⟨l', hl', hN⟩ := N_poke (g := g) (o := o) (h y (by simp)) u
    obtain ⟨ys', h1, h2, h3⟩ := pokes u ys (fun z hz => h z (by simp [hz]))
    refine ⟨(⟨y.1.f0, l'⟩, y.2) :: ys', ?_, ?_, fun z hz => ?_⟩
    · rw [List.map_cons, List.map_cons, h1]; simp [keyP, hl']
    · rw [List.map_cons, List.map_cons, h2]
    · rcases List.mem_cons.1 hz with rfl | hz
      · exact hN
      · exact h3 z hz
theorem OfR.poke {W : World} {base G c g o : Nat} {ys : List (S33 × Value)} (h : OfR W base (.slice (some ⟨G, 0, none⟩) ys.length c) ys) (hg : g ≠ G) (u : Int) :
    ∃ ys' : List (S33 × Value), ys'.map keyP = ys.map keyP ∧ OfR (W.setCell ⟨g, o, none⟩ (.int .i64 u)) base (.slice (some ⟨G, 0, none⟩) ys.length c) ys' := by
  rcases h with ⟨he, rfl⟩ | ⟨G', c', he, h1, hc, ⟨cur, hG, hcell⟩, ht⟩
  · cases he
  · injection he with he1 he2 he3
    injection he1 with he1
    injection he1 with he1
    subst he1
    obtain ⟨ys', k1, k2, k3⟩ := pokes (g := g) (o := o) u ys ht
    have hlen : ys'.length = ys.length := by simpa using congrArg List.length k1
    refine ⟨ys', k1, .inr ⟨G, c, by rw [hlen], h1, by omega, ⟨cur, blk_far hG (Ne.symm hg) _, fun i hi => ?_⟩, k3⟩⟩
    have hi' : i < ys.length := by omega
    obtain ⟨e1, e2⟩ := hcell i hi'
    have f1 : ys'[i].1.f0 = ys[i].1.f0 := by
      have := congrArg (fun l => l[i]?) k2
      simp only [List.getElem?_map, List.getElem?_eq_getElem hi, List.getElem?_eq_getElem hi', Option.map_some, Option.some.injEq] at this
      exact this
    have f2 : ys'[i].2 = ys[i].2 := by
      have := congrArg (fun l => l[i]?) k1
      simp only [List.getElem?_map, List.getElem?_eq_getElem hi, List.getElem?_eq_getElem hi', Option.map_some, Option.some.injEq, keyP, Prod.mk.injEq] at this
      exact this.1
    rw [f1, f2]
    exact ⟨e1, e2⟩
theorem heap35 : Kd.Heap k35 := Kd.heap_iso _ (Kd.heap_pair (Kd.heap_int _) (Kd.heap_pair (Kd.heap_int _) (Kd.heap_iso _ (Kd.heap_pair (Kd.heap_int _) (Kd.heap_slice 3 (Kd.heap_int _))))))
/-- a row of calls that is read -/
theorem O_addr {w : World} {ok : Nat → Prop} {A : Option Addr} {n : Nat} {l : List S35} (h : Kd.F k35 w ok A n l) {j : Nat} (hj : j < l.length) :
    ∃ b o A1 c1, A = some ⟨b, o, none⟩ ∧ b < w.heap.size ∧ w.cell? ⟨b, o + j * 4, none⟩ = some (.int .i64 l[j].f0) ∧ w.cell? ⟨b, o + j * 4 + 1, none⟩ = some (.int .i64 l[j].f1) ∧ w.cell? ⟨b, o + j * 4 + 2, none⟩ = some (.int .i64 l[j].f2.f0) ∧ w.cell? ⟨b, o + j * 4 + 3, none⟩ = some (.slice A1 l[j].f2.f1.length c1) ∧ l[j].f2.f1.length ≤ c1 ∧ Kd.F ki w ok A1 l[j].f2.f1.length l[j].f2.f1 := by
  have hl := Kd.F_len h
  obtain ⟨ad, c, rfl, hcl, hFK, hcell, hin⟩ := Kd.F_get h z35 (j : Int) (by omega) (by omega)
  have hgd : l.getD (j : Int).toNat z35 = l[j] := by simp [List.getD_eq_getElem?_getD, hj]
  rw [hgd] at hFK
  obtain ⟨A1, c1, rfl, l1, g1⟩ := k35_openF hFK
  obtain ⟨ad0, c0, he0, hlen0, _, hcell0, _⟩ := Kd.F_get h z35 0 (by omega) (by omega)
  injection he0 with he0
  subst he0
  have hpos : 0 < c0.length := by rw [hlen0]; decide
  have hs := spot_none (hcell0 0 _ (List.getElem?_eq_getElem hpos))
  obtain ⟨b, o, sp⟩ := ad
  simp only [Int.toNat_zero, Nat.zero_mul, Nat.zero_add, Addr.add, if_true] at hs
  subst hs
  have c0' := hcell 0 _ rfl
  have c1' := hcell 1 _ rfl
  have c2' := hcell 2 _ rfl
  have c3' := hcell 3 _ rfl
  rw [addp] at c0' c1' c2' c3'
  exact ⟨b, o, A1, c1, rfl, World.block_lt_of_cell? w _ c0', c0', c1', c2', c3', l1, g1⟩
end Go.Proofs.Ytbmnefdiiibabaa
