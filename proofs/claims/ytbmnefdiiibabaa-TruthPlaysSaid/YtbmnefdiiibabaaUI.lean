import Derived.Test.YtbmnefdiiibabaaUG
import Derived.Test.YtbmnefdiiibabaaUH
namespace Go.Proofs.Ytbmnefdiiibabaa
set_option linter.unusedVariables false
set_option linter.unusedSimpArgs false
open Go.RowKit Go.Maps Go.Sort Go.Shelf Go.Proofs.YtbmnefdiiibabaaW.PrintWords Go.Proofs.YtbmnefdiiibabaaW.PrintMore PTruthPlays

/-! ### a book, and all the blocks that it may lie in -/
def grw (P : Nat → Prop) (w w' : World) (i : Nat) : Prop := P i ∨ (w.heap.size ≤ i ∧ i < w'.heap.size)
structure ProgB (W : World) (P : Nat → Prop) (B M : Nat) (b : List Ent) : Prop where
  hB : W.heap[B]? = some (.cells #[.map (some M)] 49 (0, 0))
  map : MapB W (fun i => P i ∧ i ≠ M) M b
  pM : P M
  pB : P B
  lt : ∀ i, P i → i < W.heap.size
structure RefP (W : World) (Q : Nat → Prop) (R : Nat) (rows : List S69) : Prop where
  ref : RefB W R (fun i => Q i ∧ i ≠ R) rows
  qR : Q R
  lt : ∀ i, Q i → i < W.heap.size
theorem ProgB.stp {W W' : World} {P S : Nat → Prop} {B M : Nat} {b : List Ent} (h : ProgB W P B M b) (hs : Stp S W W') (hd : ∀ i, P i → ¬ S i) : ProgB W' P B M b :=
  ⟨hs.keep h.hB (hd _ h.pB), hs.mapB h.map (hd _ h.pM) (fun i hi => hd _ hi.1), h.pM, h.pB, fun i hi => Nat.lt_of_lt_of_le (h.lt i hi) hs.size⟩
theorem RefP.stp {W W' : World} {Q S : Nat → Prop} {R : Nat} {rows : List S69} (h : RefP W Q R rows) (hs : Stp S W W') (hd : ∀ i, Q i → ¬ S i) : RefP W' Q R rows :=
  ⟨h.ref.stp hs (hd _ h.qR) (fun i hi => hd _ hi.1), h.qR, fun i hi => Nat.lt_of_lt_of_le (h.lt i hi) hs.size⟩
theorem ProgB.below {W W' : World} {P : Nat → Prop} {B M : Nat} {b : List Ent} (h : ProgB W P B M b) (hb : Below W.heap.size W W') : ProgB W' P B M b := h.stp (S := fun _ => False) (Stp.of_below hb) (fun _ _ h => h)
theorem RefP.below {W W' : World} {Q : Nat → Prop} {R : Nat} {rows : List S69} (h : RefP W Q R rows) (hb : Below W.heap.size W W') : RefP W' Q R rows := h.stp (S := fun _ => False) (Stp.of_below hb) (fun _ _ h => h)
theorem ProgB.ne {W : World} {P : Nat → Prop} {B M : Nat} {b : List Ent} (h : ProgB W P B M b) : B ≠ M := h.map.ne h.hB
theorem RefB.mono {W : World} {R : Nat} {ok ok' : Nat → Prop} {rows : List S69} (h : RefB W R ok rows) (hm : ∀ i, ok i → i < W.heap.size → ok' i) (hn : ¬ ok' R) : RefB W R ok' rows := by
  obtain ⟨v, hb, hN, _⟩ := h
  exact ⟨v, hb, Kd.N_mono (Kd.N_bound hN) (fun i hi => hm i hi.1 hi.2), hn⟩

/-- how great the rows are -/
structure RBnd (n : Nat) (rows : List S69) : Prop where
  len : rows.length ≤ n
  key : ∀ r ∈ rows, i64r r.f0
  lst : ∀ r ∈ rows, r.f2.length ≤ n
  tup : ∀ r ∈ rows, ∀ y ∈ r.f2, y.f1.length ≤ 20 ∧ ∀ z ∈ y.f1, i64r z
theorem RBnd.nil (n : Nat) : RBnd n [] := ⟨Nat.zero_le _, by simp, by simp, by simp⟩
theorem RBnd.up {n m : Nat} {rows : List S69} (h : RBnd n rows) (hm : n ≤ m) : RBnd m rows := ⟨Nat.le_trans h.len hm, h.key, fun r hr => Nat.le_trans (h.lst r hr) hm, h.tup⟩
theorem RBnd.row {n : Nat} {rows : List S69} (h : RBnd n rows) {id : Int} {rows' : List S69} {k : Nat} (hr : RowIs rows id rows' k) (hid : i64r id) : RBnd (n + 1) rows' := by
  have hm := hr.mem
  refine ⟨by have := hr.len; have := h.len; omega, fun r hr => ?_, fun r hr => ?_, fun r hr => ?_⟩
  · rcases hm r hr with h1 | rfl
    · exact h.key r h1
    · exact hid
  · rcases hm r hr with h1 | rfl
    · have := h.lst r h1; omega
    · simp [rnew]
  · rcases hm r hr with h1 | rfl
    · exact h.tup r h1
    · simp [rnew]
theorem RBnd.row_lst {n : Nat} {rows : List S69} (h : RBnd n rows) {id : Int} {rows' : List S69} {k : Nat} (hr : RowIs rows id rows' k) (hk : k < rows'.length) : rows'[k].f2.length ≤ n := by
  rcases hr.mem _ (List.getElem_mem hk) with h1 | h1
  · exact h.lst _ h1
  · rw [h1]; simp [rnew]
theorem RBnd.set {n : Nat} {rows : List S69} (h : RBnd n rows) {k : Nat} {r : S69} (hkey : i64r r.f0) (hlst : r.f2.length ≤ n) (htup : ∀ y ∈ r.f2, y.f1.length ≤ 20 ∧ ∀ z ∈ y.f1, i64r z) : RBnd n (rows.set k r) := by
  refine ⟨by rw [List.length_set]; exact h.len, fun x hx => ?_, fun x hx => ?_, fun x hx => ?_⟩
  all_goals
    rcases List.mem_or_eq_of_mem_set hx with h1 | rfl
  · exact h.key x h1
  · exact hkey
  · exact h.lst x h1
  · exact hlst
  · exact h.tup x h1
  · exact htup
theorem RBnd.plain {n : Nat} {rows : List S69} (h : RBnd n rows) {id : Int} {rows' : List S69} {k : Nat} (hr : RowIs rows id rows' k) (hid : i64r id) (hk : k < rows'.length) : RBnd (n + 1) (rows'.set k ⟨rows'[k].f0, true, rows'[k].f2⟩) := by
  have h1 := h.row hr hid
  exact h1.set (r := ⟨rows'[k].f0, true, rows'[k].f2⟩) (h1.key rows'[k] (List.getElem_mem hk)) (h1.lst rows'[k] (List.getElem_mem hk)) (h1.tup rows'[k] (List.getElem_mem hk))
theorem RBnd.justify {n : Nat} {rows : List S69} (h : RBnd n rows) {id : Int} {rows' : List S69} {k : Nat} (hr : RowIs rows id rows' k) (hid : i64r id) (hk : k < rows'.length) {j : S33} (hj : j.f1.length ≤ 20) (hz : ∀ z ∈ j.f1, i64r z) : RBnd (n + 1) (rows'.set k ⟨rows'[k].f0, rows'[k].f1, jins rows'[k].f2 j⟩) := by
  have h1 := h.row hr hid
  have h2 := h.row_lst hr hk
  have hp := jins_perm rows'[k].f2 j
  refine h1.set (r := ⟨rows'[k].f0, rows'[k].f1, jins rows'[k].f2 j⟩) (h1.key rows'[k] (List.getElem_mem hk)) ?_ (fun y hy => ?_)
  · show (jins rows'[k].f2 j).length ≤ n + 1
    rw [← hp.length_eq, List.length_append, List.length_singleton]; omega
  · have hy' := hp.symm.subset hy
    rcases List.mem_append.1 hy' with h3 | h3
    · exact h1.tup rows'[k] (List.getElem_mem hk) y h3
    · simp at h3; subst h3; exact ⟨hj, hz⟩
theorem RBnd.withdraw {n : Nat} {rows : List S69} (h : RBnd n rows) (j : S33) : RBnd n (rwd rows j) := by
  unfold rwd
  refine ⟨by rw [List.length_map]; exact h.len, fun r hr => ?_, fun r hr => ?_, fun r hr => ?_⟩
  all_goals obtain ⟨r0, h0, rfl⟩ := List.mem_map.1 hr
  · exact h.key r0 h0
  · exact Nat.le_trans (List.length_filter_le _ _) (h.lst r0 h0)
  · exact fun y hy => h.tup r0 h0 y (List.mem_filter.1 hy).1
theorem RBnd.drop {n : Nat} {rows : List S69} (h : RBnd n rows) (k : Nat) : RBnd n (rows.take k ++ rows.drop (k + 1)) := by
  have hm : ∀ r ∈ rows.take k ++ rows.drop (k + 1), r ∈ rows := fun r hr => (List.mem_append.1 hr).elim List.mem_of_mem_take List.mem_of_mem_drop
  exact ⟨by have := h.len; rw [List.length_append, List.length_take, List.length_drop]; omega, fun r hr => h.key r (hm r hr), fun r hr => h.lst r (hm r hr), fun r hr => h.tup r (hm r hr)⟩
/-- .. and the book -/
structure BBnd (n : Nat) (b : List Ent) : Prop where
  len : b.length ≤ n
  key : ∀ x ∈ b, i64r x.1
  lst : ∀ x ∈ b, x.2.2.length ≤ n
  tup : ∀ x ∈ b, ∀ y ∈ x.2.2, y.f1.length ≤ 20 ∧ ∀ z ∈ y.f1, i64r z
theorem RBnd.book {n : Nat} {rows : List S69} {b : List Ent} (h : RBnd n rows) (hc : Corr b rows) : BBnd n b := by
  refine ⟨by rw [hc.rel.len]; exact h.len, fun x hx => ?_, fun x hx => ?_, fun x hx => ?_⟩
  all_goals obtain ⟨r, hr, he⟩ := F2.mem hc.rel x hx
  · rw [he.1]; exact h.key r hr
  · rw [he.2.2.length_eq]; exact h.lst r hr
  · exact fun y hy => h.tup r hr y (he.2.2.subset hy)
theorem BBnd.get {n : Nat} {b : List Ent} (h : BBnd n b) (k : Int) : (bget b k).2.length ≤ n ∧ ∀ y ∈ (bget b k).2, y.f1.length ≤ 20 ∧ ∀ z ∈ y.f1, i64r z := by
  unfold bget bfind
  cases hf : b.find? (fun x => x.1 == k) with
  | none => exact ⟨by simp, by simp⟩
  | some x =>
    have hx := List.mem_of_find?_eq_some hf
    exact ⟨h.lst x hx, h.tup x hx⟩

/-! ### the program's calls -/
theorem ProgB.after {W W' : World} {P P' : Nat → Prop} {B M : Nat} {b b' : List Ent} (h : ProgB W P B M b) (hs : Stp (· = M) W W') (hm : MapB W' (fun i => P' i ∧ i ≠ M) M b') (hP : ∀ i, P i → P' i) (hlt : ∀ i, P' i → i < W'.heap.size) : ProgB W' P' B M b' :=
  ⟨hs.keep h.hB h.ne, hm, hP _ h.pM, hP _ h.pB, hlt⟩
theorem p_plain {w : World} {P : Nat → Prop} {B M : Nat} {b : List Ent} (h : ProgB w P B M b) {n : Nat} (hb : BBnd n b) (hn : n ≤ 1000) (k : Int) (hk : i64r k) :
    Calls Try.prog 18 #[.pointer (some ⟨B, 0, none⟩), .int .i64 k] w fun e w' => e = .returned (.tuple #[]) ∧ ProgB w' P B M (bput b k (true, (bget b k).2)) ∧ Stp (· = M) w w' := by
  refine (plain_any B M b w (fun i => P i ∧ i ≠ M) k hk h.hB h.map (fun h => h.2 rfl) (by have := hb.len; omega)).mono ?_
  rintro e w' ⟨rfl, hm, hg⟩
  have hs := Stp.grown1 hg
  exact ⟨rfl, h.after hs hm (fun _ h => h) (fun i hi => Nat.lt_of_lt_of_le (h.lt i hi) hs.size), hs⟩
theorem grw_map {w w' : World} {P : Nat → Prop} {M : Nat} {b : List Ent} (hMl : M < w.heap.size) (hm : MapB w' (fun i => (P i ∧ i ≠ M) ∨ w.heap.size ≤ i) M b) : MapB w' (fun i => grw P w w' i ∧ i ≠ M) M b :=
  hm.mono (fun i hi hlt => hi.elim (fun h => ⟨.inl h.1, h.2⟩) (fun h => ⟨.inr ⟨h, hlt⟩, by omega⟩))
theorem grw_lt {w w' : World} {P : Nat → Prop} (h : ∀ i, P i → i < w.heap.size) (hs : w.heap.size ≤ w'.heap.size) : ∀ i, grw P w w' i → i < w'.heap.size := fun i hi => hi.elim (fun h1 => Nat.lt_of_lt_of_le (h i h1) hs) (fun h => h.2)
theorem bjust_no {b : List Ent} {k : Int} {j : S33} (h : (bget b k).2.any (fun x => jeq x j) = true) : bjust b k j = (bput b k (bget b k), false) := by unfold bjust; simp only [h, if_true]
theorem bjust_yes {b : List Ent} {k : Int} {j : S33} (h : (bget b k).2.any (fun x => jeq x j) = false) : bjust b k j = (bput b k ((bget b k).1, (bget b k).2 ++ [j]), true) := by unfold bjust; simp only [h, Bool.false_eq_true, if_false]
theorem p_justify {w : World} {P : Nat → Prop} {B M : Nat} {b : List Ent} (h : ProgB w P B M b) {n : Nat} (hb : BBnd n b) (hn : n ≤ 1000) (k : Int) (hk : i64r k) (j : S33) (Aj : Option Addr) (cj : Nat) (hj : ki.C w Aj j.f1.length j.f1) (hjl : j.f1.length ≤ 20) :
    Calls Try.prog 19 #[.pointer (some ⟨B, 0, none⟩), .int .i64 k, .agg #[.int .i64 j.f0, .slice Aj j.f1.length cj]] w fun e w' => e = .returned (.bool (bjust b k j).2) ∧ ProgB w' (grw P w w') B M (bjust b k j).1 ∧ Stp (· = M) w w' := by
  have hMl := h.map.lt
  have hg := hb.get k
  cases hany : (bget b k).2.any (fun x => jeq x j) with
  | true =>
    rw [bjust_no hany]
    refine (justify_no B M b w (fun i => P i ∧ i ≠ M) k hk j Aj cj h.hB h.map (fun h => h.2 rfl) (by have := hb.len; omega) hj hany).mono ?_
    rintro e w' ⟨rfl, hm, hs⟩
    exact ⟨rfl, h.after hs (hm.mono (fun i hi _ => ⟨.inl hi.1, hi.2⟩)) (fun _ h => .inl h) (grw_lt h.lt hs.size), hs⟩
  | false =>
    rw [bjust_yes hany]
    refine (justify_yes B M b w (fun i => P i ∧ i ≠ M) k hk j Aj cj h.hB h.map (fun h => h.2 rfl) (by have := hb.len; omega) hj (by omega) (by omega) hany).mono ?_
    rintro e w' ⟨rfl, hm, hs⟩
    exact ⟨rfl, h.after hs (grw_map hMl hm) (fun _ h => .inl h) (grw_lt h.lt hs.size), hs⟩
theorem p_withdraw {w : World} {P : Nat → Prop} {B M : Nat} {b : List Ent} (h : ProgB w P B M b) {n : Nat} (hb : BBnd n b) (hn : n ≤ 1000) (j : S33) (Aj : Option Addr) (cj : Nat) (okj : Nat → Prop) (hj : Kd.F ki w okj Aj j.f1.length j.f1) (hjM : ∀ i, okj i → ¬ P i) :
    Calls Try.prog 23 #[.pointer (some ⟨B, 0, none⟩), .agg #[.int .i64 j.f0, .slice Aj j.f1.length cj]] w fun e w' => ∃ A c, e = .returned (.slice A (bout b j).length c) ∧ Kd.N ki 3 w' w.heap.size (fun i => w.heap.size ≤ i) (.slice A (bout b j).length c) (bout b j) ∧ ProgB w' (grw P w w') B M (bwd b j) ∧ Stp (· = M) w w' := by
  have hMl := h.map.lt
  refine (withdraw_any B M b w (fun i => P i ∧ i ≠ M) j Aj cj h.hB h.map (fun h => h.2 rfl) (by have := hb.len; omega) hb.key (fun x hx => by have := hb.lst x hx; omega) okj hj (fun h1 => hjM _ h1 h.pM)).mono ?_
  rintro e w' ⟨A, c, rfl, hN, hm, hs⟩
  exact ⟨A, c, rfl, hN, h.after hs (grw_map hMl hm) (fun _ h => .inl h) (grw_lt h.lt hs.size), hs⟩
theorem p_drop {w : World} {P : Nat → Prop} {B M : Nat} {b : List Ent} (h : ProgB w P B M b) (k : Int) (hk : i64r k) :
    Calls Try.prog 20 #[.pointer (some ⟨B, 0, none⟩), .int .i64 k] w fun e w' => e = .returned (.bool (bfind b k).isSome) ∧ ProgB w' P B M (bdel b k) ∧ Stp (· = M) w w' := by
  refine (drop_any B M b w (fun i => P i ∧ i ≠ M) k hk h.hB h.map (fun h => h.2 rfl)).mono ?_
  rintro e w' ⟨rfl, hm, hs⟩
  exact ⟨rfl, h.after hs hm (fun _ h => h) (fun i hi => Nat.lt_of_lt_of_le (h.lt i hi) hs.size), hs⟩
theorem p_copy {w : World} {P : Nat → Prop} {B M : Nat} {b : List Ent} (h : ProgB w P B M b) :
    Calls Try.prog 26 #[.pointer (some ⟨B, 0, none⟩)] w fun e w' => e = .returned (.pointer (some ⟨w.heap.size + 1, 0, none⟩)) ∧ ProgB w' (fun i => (P i ∧ i ≠ M) ∨ (w.heap.size ≤ i ∧ i < w'.heap.size)) (w.heap.size + 1) w.heap.size b ∧ Below w.heap.size w w' := by
  refine (copy_any B M b w (fun i => P i ∧ i ≠ M) h.hB h.map).mono ?_
  rintro e w' ⟨rfl, hB, hm, hb⟩
  have h1 := blk_lt' hB
  refine ⟨rfl, ⟨hB, hm.mono (fun i hi _ => ⟨.inl hi.1, by omega⟩), .inr ⟨Nat.le_refl _, by omega⟩, .inr ⟨by omega, h1⟩, fun i hi => ?_⟩, hb⟩
  rcases hi with hi | hi
  · have := h.lt i hi.1; omega
  · exact hi.2
theorem p_facts {w : World} {P : Nat → Prop} {B M : Nat} {b : List Ent} (h : ProgB w P B M b) {n : Nat} (hb : BBnd n b) (hn : n ≤ 1000) :
    Calls Try.prog 8 #[.pointer (some ⟨B, 0, none⟩)] w fun e w' => ∃ A c, e = .returned (.slice A b.length c) ∧ Kd.N ki 3 w' w.heap.size (fun i => w.heap.size ≤ i) (.slice A b.length c) (b.map (·.1)) ∧ Below w.heap.size w w' :=
  facts_N B M b w _ h.hB h.map (by have := hb.len; omega)
theorem p_lost {w : World} {P : Nat → Prop} {B M : Nat} {b : List Ent} (h : ProgB w P B M b) {n : Nat} (hb : BBnd n b) (hn : n ≤ 1000) :
    Calls Try.prog 9 #[.pointer (some ⟨B, 0, none⟩)] w fun e w' => ∃ A c, e = .returned (.slice A (lostL b (fun _ => false) (b.map (·.1))).length c) ∧ Kd.N ki 3 w' w.heap.size (fun i => w.heap.size ≤ i) (.slice A (lostL b (fun _ => false) (b.map (·.1))).length c) (lostL b (fun _ => false) (b.map (·.1))) ∧ Below w.heap.size w w' :=
  lost_any B M b w _ h.hB h.map (by have := hb.len; omega) hb.key (fun x hx y hy => (hb.tup x hx y hy).2)
theorem p_isplain {w : World} {P : Nat → Prop} {B M : Nat} {b : List Ent} (h : ProgB w P B M b) (k : Int) (hk : i64r k) :
    Calls Try.prog 14 #[.pointer (some ⟨B, 0, none⟩), .int .i64 k] w fun e w' => e = .returned (.bool (bget b k).1) ∧ w = w' :=
  isplain_any B M b w _ k hk h.hB h.map
theorem p_of {w : World} {P : Nat → Prop} {B M : Nat} {b : List Ent} (h : ProgB w P B M b) {n : Nat} (hb : BBnd n b) (hn : n ≤ 1000) (k : Int) (hk : i64r k) :
    Calls Try.prog 10 #[.pointer (some ⟨B, 0, none⟩), .int .i64 k] w fun e w' => ∃ v ys, e = .returned v ∧ OfR w' w.heap.size v ys ∧ (ys.map (·.1)).Perm (bget b k).2 ∧ (ys.map (·.1)).Pairwise (fun x y => ¬ jcmp y x < 0) ∧ Below w.heap.size w w' :=
  of_any B M b w _ k hk h.hB h.map (by have := (hb.get k).1; omega) (fun x hx => by have := ((hb.get k).2 x hx).1; omega)

/-! ### the document's calls -/
theorem RefP.after {W W' : World} {Q : Nat → Prop} {R : Nat} {rows rows' : List S69} (h : RefP W Q R rows) (hs : W.heap.size ≤ W'.heap.size) (hr : RefB W' R (fun i => (Q i ∧ i ≠ R) ∨ W.heap.size ≤ i) rows') : RefP W' (grw Q W W') R rows' :=
  ⟨hr.mono (fun i hi hlt => hi.elim (fun h1 => ⟨.inl h1.1, h1.2⟩) (fun h1 => ⟨.inr ⟨h1, hlt⟩, by have := h.lt _ h.qR; omega⟩)) (fun h => h.2 rfl), .inl h.qR, grw_lt h.lt hs⟩
theorem RefP.turned {w w' : World} {Q : Nat → Prop} {R : Nat} {rows : List S69} (h : RefP w Q R rows) (hs : Stp (fun i => i = R ∨ (Q i ∧ i ≠ R)) w w') : Stp Q w w' := hs.mono (fun i _ hi => hi.elim (fun e => e ▸ h.qR) (fun h => h.1))
theorem r_plain {w : World} {Q : Nat → Prop} {R : Nat} {rows : List S69} (h : RefP w Q R rows) {n : Nat} (hb : RBnd n rows) (hn : n ≤ 1000) (id : Int) :
    Calls Try.prog 21 #[.pointer (some ⟨R, 0, none⟩), .int .i64 id] w fun e w' => ∃ (rows' : List S69) (k : Nat) (hk : k < rows'.length), RowIs rows id rows' k ∧ e = .returned (.tuple #[]) ∧ RefP w' (grw Q w w') R (rows'.set k ⟨rows'[k].f0, true, rows'[k].f2⟩) ∧ Stp Q w w' := by
  refine (rplain_any R rows id w _ h.ref (fun i hi => h.lt i hi.1) (by have := hb.len; omega)).mono ?_
  rintro e w' ⟨rows', k, hk, hr, rfl, hR, hs⟩
  exact ⟨rows', k, hk, hr, rfl, h.after hs.size hR, h.turned hs⟩
theorem r_justify {w : World} {Q : Nat → Prop} {R : Nat} {rows : List S69} (h : RefP w Q R rows) {n : Nat} (hb : RBnd n rows) (hn : n ≤ 999) (id : Int) (j : S33) (Aj : Option Addr) (cj : Nat) (okj : Nat → Prop) (hj : Kd.F ki w okj Aj j.f1.length j.f1) (hcj : j.f1.length ≤ cj) (hjl : j.f1.length ≤ 20) (hjR : ∀ i, okj i → ¬ Q i) :
    Calls Try.prog 22 #[.pointer (some ⟨R, 0, none⟩), .int .i64 id, .agg #[.int .i64 j.f0, .slice Aj j.f1.length cj]] w fun e w' => ∃ (rows' : List S69) (k : Nat) (hk : k < rows'.length), RowIs rows id rows' k ∧ e = .returned (.bool (!rows'[k].f2.any (fun x => jeq x j))) ∧ RefP w' (grw Q w w') R (if rows'[k].f2.any (fun x => jeq x j) = true then rows' else rows'.set k ⟨rows'[k].f0, rows'[k].f1, jins rows'[k].f2 j⟩) ∧ Stp Q w w' := by
  refine (rjustify_any R rows id w _ h.ref (fun i hi => h.lt i hi.1) (by have := hb.len; omega) (fun r hr => by have := hb.lst r hr; omega) (fun r hr y hy => by have := (hb.tup r hr y hy).1; omega) j Aj cj okj hj hcj (by omega) (fun h1 => hjR _ h1 h.qR)).mono ?_
  rintro e w' ⟨rows', k, hk, hr, hor, hs⟩
  refine ⟨rows', k, hk, hr, ?_, ?_, h.turned hs⟩
  · rcases hor with ⟨h1, h2, _⟩ | ⟨h1, h2, _⟩
    · rw [h1]; exact h2
    · rw [h1]; exact h2
  · rcases hor with ⟨h1, _, h3⟩ | ⟨h1, _, h3⟩
    · rw [if_pos h1]; exact h.after hs.size h3
    · rw [if_neg (by rw [h1]; decide)]; exact h.after hs.size h3
theorem r_withdraw {w : World} {Q : Nat → Prop} {R : Nat} {rows : List S69} (h : RefP w Q R rows) {n : Nat} (hb : RBnd n rows) (hn : n ≤ 1000) (j : S33) (Aj : Option Addr) (cj : Nat) (okj : Nat → Prop) (hj : Kd.F ki w okj Aj j.f1.length j.f1) (hcj : j.f1.length ≤ cj) (hjR : ∀ i, okj i → ¬ Q i) :
    Calls Try.prog 24 #[.pointer (some ⟨R, 0, none⟩), .agg #[.int .i64 j.f0, .slice Aj j.f1.length cj]] w fun e w' => ∃ A c, e = .returned (.slice A (rout rows j).length c) ∧ Kd.N ki 3 w' w.heap.size (fun i => w.heap.size ≤ i) (.slice A (rout rows j).length c) (rout rows j) ∧ RefP w' (grw Q w w') R (rwd rows j) ∧ Stp Q w w' := by
  refine (rwithdraw_any R rows w _ h.ref (fun i hi => h.lt i hi.1) (by have := hb.len; omega) (fun r hr => by have := hb.lst r hr; omega) (fun r hr y hy => by have := (hb.tup r hr y hy).1; omega) j Aj cj okj hj hcj (fun i h1 h2 => hjR i h1 h2.1) (fun h1 => hjR _ h1 h.qR)).mono ?_
  rintro e w' ⟨A, c, rfl, hN, hR, hs⟩
  exact ⟨A, c, rfl, hN, h.after hs.size hR, h.turned hs⟩
theorem r_drop {w : World} {Q : Nat → Prop} {R : Nat} {rows : List S69} (h : RefP w Q R rows) {n : Nat} (hb : RBnd n rows) (hn : n ≤ 1000) (id : Int) :
    Calls Try.prog 25 #[.pointer (some ⟨R, 0, none⟩), .int .i64 id] w fun e w' => ((rfind rows id = -1 ∧ e = .returned (.bool false) ∧ RefP w' (grw Q w w') R rows ∧ Stp Q w w') ∨ ∃ k : Nat, k < rows.length ∧ rfind rows id = k ∧ e = .returned (.bool true) ∧ RefP w' (grw Q w w') R (rows.take k ++ rows.drop (k + 1)) ∧ Stp Q w w') := by
  refine (rdrop_any R rows id w _ h.ref (fun i hi => h.lt i hi.1) (by have := hb.len; omega)).mono ?_
  rintro e w' (⟨h1, rfl, rfl⟩ | ⟨k, hk, h1, rfl, hR, hs⟩)
  · exact .inl ⟨h1, rfl, h.after (Nat.le_refl _) (h.ref.mono (fun i hi _ => .inl hi) (by rintro (h1 | h1); exact h1.2 rfl; have := h.lt _ h.qR; omega)), Stp.refl _ _⟩
  · exact .inr ⟨k, hk, h1, rfl, h.after hs.size hR, hs.mono (fun i _ e => e ▸ h.qR)⟩
theorem r_copy {w : World} {Q : Nat → Prop} {R : Nat} {rows : List S69} (h : RefP w Q R rows) {n : Nat} (hb : RBnd n rows) (hn : n ≤ 1000) :
    Calls Try.prog 27 #[.pointer (some ⟨R, 0, none⟩)] w fun e w' => ∃ R', e = .returned (.pointer (some ⟨R', 0, none⟩)) ∧ RefP w' (grw Q w w') R' rows ∧ Below w.heap.size w w' := by
  refine (rcopy_any R rows w _ h.ref (fun i hi => h.lt i hi.1) (by have := hb.len; omega)).mono ?_
  rintro e w' ⟨R', rfl, hle, hR, hb'⟩
  have hl := hR.lt
  exact ⟨R', rfl, ⟨hR.mono (fun i hi hlt => ⟨hi.1.elim (fun h => .inl h.1) (fun h => .inr ⟨h, hlt⟩), by omega⟩) (fun h => h.2 rfl), .inr ⟨hle, hl⟩, grw_lt h.lt hb'.size⟩, hb'⟩

/-! ### both, side by side -/
theorem ProgB.turned {w w' : World} {P : Nat → Prop} {B M : Nat} {b : List Ent} {W : World} (h : ProgB W P B M b) (hs : Stp (· = M) w w') : Stp P w w' := hs.mono (fun i _ e => e ▸ h.pM)
theorem BBnd.up {n m : Nat} {b : List Ent} (h : BBnd n b) (hm : n ≤ m) : BBnd m b := ⟨Nat.le_trans h.len hm, h.key, fun r hr => Nat.le_trans (h.lst r hr) hm, h.tup⟩
theorem BBnd.del {n : Nat} {b : List Ent} (h : BBnd n b) (k : Int) : BBnd n (bdel b k) := by
  have hm : ∀ x ∈ bdel b k, x ∈ b := fun x hx => (List.mem_filter.1 hx).1
  exact ⟨Nat.le_trans (List.length_filter_le _ _) h.len, fun x hx => h.key x (hm x hx), fun x hx => h.lst x (hm x hx), fun x hx => h.tup x (hm x hx)⟩
theorem mem_insE {x y : Ent} : ∀ {l : List Ent}, y ∈ insE x l → y = x ∨ y ∈ l
  | [], h => by unfold insE at h; simp at h; exact .inl h
  | z :: l, h => by
    unfold insE at h
    split at h
    · rcases List.mem_cons.1 h with h | h
      · exact .inl h
      · exact .inr h
    · rcases List.mem_cons.1 h with h | h
      · exact .inr (by simp [h])
      · rcases mem_insE h with h | h
        · exact .inl h
        · exact .inr (by simp [h])
theorem len_insE {x : Ent} : ∀ {l : List Ent}, (insE x l).length = l.length + 1
  | [] => rfl
  | z :: l => by
    unfold insE
    split
    · rfl
    · rw [List.length_cons, len_insE]; rfl
theorem BBnd.put {n : Nat} {b : List Ent} (h : BBnd n b) {k : Int} (hk : i64r k) {v : Bool × List S33} (hv : v.2.length ≤ n + 1) (ht : ∀ y ∈ v.2, y.f1.length ≤ 20 ∧ ∀ z ∈ y.f1, i64r z) : BBnd (n + 1) (bput b k v) := by
  have hd := (h.del k).up (Nat.le_succ n)
  have hm : ∀ x ∈ bput b k v, x = (k, v) ∨ x ∈ bdel b k := fun x hx => mem_insE hx
  refine ⟨?_, fun x hx => ?_, fun x hx => ?_, fun x hx => ?_⟩
  · have := (h.del k).len
    unfold bput
    rw [len_insE]; omega
  all_goals
    rcases hm x hx with rfl | hx
  · exact hk
  · exact hd.key x hx
  · exact hv
  · exact hd.lst x hx
  · exact ht
  · exact hd.tup x hx
theorem BBnd.justify {n : Nat} {b : List Ent} (h : BBnd n b) {k : Int} (hk : i64r k) {j : S33} (hj : j.f1.length ≤ 20) (hz : ∀ z ∈ j.f1, i64r z) : BBnd (n + 1) (bjust b k j).1 := by
  have hg := h.get k
  cases hany : (bget b k).2.any (fun x => jeq x j) with
  | true => rw [bjust_no hany]; exact h.put hk (by omega) hg.2
  | false =>
    rw [bjust_yes hany]
    refine h.put hk (by rw [List.length_append, List.length_singleton]; omega) (fun y hy => ?_)
    rcases List.mem_append.1 hy with hy | hy
    · exact hg.2 y hy
    · simp at hy; subst hy; exact ⟨hj, hz⟩
theorem BBnd.plain {n : Nat} {b : List Ent} (h : BBnd n b) {k : Int} (hk : i64r k) : BBnd (n + 1) (bput b k (true, (bget b k).2)) := by
  have hg := h.get k
  exact h.put hk (by have := hg.1; show (bget b k).2.length ≤ n + 1; omega) hg.2

theorem t_plain {w : World} {Q : Nat → Prop} {R n : Nat} {b : List Ent} {rows : List S69} (h : RefP w Q R rows) (hc : Corr b rows) (hb : RBnd n rows) (hn : n ≤ 1000) (id : Int) (hid : i64r id) :
    Calls Try.prog 21 #[.pointer (some ⟨R, 0, none⟩), .int .i64 id] w fun e w' => ∃ rows', e = .returned (.tuple #[]) ∧ RefP w' (grw Q w w') R rows' ∧ Stp Q w w' ∧ Corr (bput b id (true, (bget b id).2)) rows' ∧ RBnd (n + 1) rows' := by
  refine (r_plain h hb hn id).mono ?_
  rintro e w' ⟨rows', k, hk, hr, rfl, hR, hs⟩
  exact ⟨_, rfl, hR, hs, hc.plain hr hk, hb.plain hr hid hk⟩
theorem t_justify {w : World} {Q : Nat → Prop} {R n : Nat} {b : List Ent} {rows : List S69} (h : RefP w Q R rows) (hc : Corr b rows) (hb : RBnd n rows) (hn : n ≤ 999) (id : Int) (hid : i64r id) (j : S33) (Aj : Option Addr) (cj : Nat) (okj : Nat → Prop) (hj : Kd.F ki w okj Aj j.f1.length j.f1) (hcj : j.f1.length ≤ cj) (hjl : j.f1.length ≤ 20) (hjz : ∀ z ∈ j.f1, i64r z) (hjR : ∀ i, okj i → ¬ Q i) :
    Calls Try.prog 22 #[.pointer (some ⟨R, 0, none⟩), .int .i64 id, .agg #[.int .i64 j.f0, .slice Aj j.f1.length cj]] w fun e w' => ∃ rows', e = .returned (.bool (bjust b id j).2) ∧ RefP w' (grw Q w w') R rows' ∧ Stp Q w w' ∧ Corr (bjust b id j).1 rows' ∧ RBnd (n + 1) rows' := by
  refine (r_justify h hb hn id j Aj cj okj hj hcj hjl hjR).mono ?_
  rintro e w' ⟨rows', k, hk, hr, rfl, hR, hs⟩
  have hJ := hc.justify hr hk j
  cases hany : rows'[k].f2.any (fun x => jeq x j) with
  | true =>
    rw [hany, if_pos rfl] at hR
    rw [bjust_no (hJ.1.trans hany)]
    exact ⟨rows', rfl, hR, hs, hJ.2.1 hany, hb.row hr hid⟩
  | false =>
    rw [hany, if_neg (by decide)] at hR
    rw [bjust_yes (hJ.1.trans hany)]
    exact ⟨_, rfl, hR, hs, hJ.2.2 hany, hb.justify hr hid hk hjl hjz⟩
theorem t_withdraw {w : World} {Q : Nat → Prop} {R n : Nat} {b : List Ent} {rows : List S69} (h : RefP w Q R rows) (hc : Corr b rows) (hb : RBnd n rows) (hn : n ≤ 1000) (j : S33) (Aj : Option Addr) (cj : Nat) (okj : Nat → Prop) (hj : Kd.F ki w okj Aj j.f1.length j.f1) (hcj : j.f1.length ≤ cj) (hjR : ∀ i, okj i → ¬ Q i) :
    Calls Try.prog 24 #[.pointer (some ⟨R, 0, none⟩), .agg #[.int .i64 j.f0, .slice Aj j.f1.length cj]] w fun e w' => ∃ A c, e = .returned (.slice A (bout b j).length c) ∧ Kd.N ki 3 w' w.heap.size (fun i => w.heap.size ≤ i) (.slice A (bout b j).length c) (bout b j) ∧ RefP w' (grw Q w w') R (rwd rows j) ∧ Stp Q w w' ∧ Corr (bwd b j) (rwd rows j) ∧ RBnd n (rwd rows j) := by
  have hw := hc.withdraw j
  refine (r_withdraw h hb hn j Aj cj okj hj hcj hjR).mono ?_
  rintro e w' ⟨A, c, rfl, hN, hR, hs⟩
  rw [hw.2]
  exact ⟨A, c, rfl, hN, hR, hs, hw.1, hb.withdraw j⟩
theorem t_drop {w : World} {Q : Nat → Prop} {R n : Nat} {b : List Ent} {rows : List S69} (h : RefP w Q R rows) (hc : Corr b rows) (hb : RBnd n rows) (hn : n ≤ 1000) (id : Int) :
    Calls Try.prog 25 #[.pointer (some ⟨R, 0, none⟩), .int .i64 id] w fun e w' => ∃ rows', e = .returned (.bool (bfind b id).isSome) ∧ RefP w' (grw Q w w') R rows' ∧ Stp Q w w' ∧ Corr (bdel b id) rows' ∧ RBnd n rows' := by
  have hd := hc.drop id
  refine (r_drop h hb hn id).mono ?_
  rintro e w' (⟨h1, rfl, hR, hs⟩ | ⟨k, hk, h1, rfl, hR, hs⟩)
  · rcases hd with ⟨_, h2, h3⟩ | ⟨k, h2, _⟩
    · rw [h2, h3]; exact ⟨rows, rfl, hR, hs, hc, hb⟩
    · omega
  · rcases hd with ⟨h2, _⟩ | ⟨k2, h2, h3, h4⟩
    · omega
    · have e : k2 = k := by omega
      subst e
      rw [h3]; exact ⟨_, rfl, hR, hs, h4, hb.drop k2⟩
end Go.Proofs.Ytbmnefdiiibabaa
