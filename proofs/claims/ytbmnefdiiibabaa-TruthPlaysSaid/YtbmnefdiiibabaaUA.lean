import Derived.Test.YtbmnefdiiibabaaTU
namespace Go.Proofs.Ytbmnefdiiibabaa
set_option linter.unusedVariables false
set_option linter.unusedSimpArgs false
open Go.RowKit Go.Maps Go.Sort Go.Shelf Go.Proofs.YtbmnefdiiibabaaW.PrintWords Go.Proofs.YtbmnefdiiibabaaW.PrintMore PTruthPlays

/-! ### the document's book -/
/-- block R holds a book of those rows; what they lie in is in ok -/
def RefB (W : World) (R : Nat) (ok : Nat → Prop) (rows : List S69) : Prop := ∃ v, W.heap[R]? = some (.cells #[v] 30 (0, 0)) ∧ Kd.N k69 69 W 0 ok v rows ∧ ¬ ok R
theorem RefB.step {W W1 : World} {R : Nat} {ok : Nat → Prop} {rows : List S69} (h : RefB W R ok rows) (hR : W1.heap[R]? = W.heap[R]?) (hm : ∀ k, ok k → k < W.heap.size → W1.heap[k]? = W.heap[k]?) : RefB W1 R ok rows := by
  obtain ⟨v, hb, hN, hn⟩ := h
  exact ⟨v, hR.trans hb, Kd.N_step hN hm, hn⟩
theorem RefB.lt {W : World} {R : Nat} {ok : Nat → Prop} {rows : List S69} (h : RefB W R ok rows) : R < W.heap.size := by
  obtain ⟨v, hb, _⟩ := h
  exact blk_lt' hb
theorem RefB.stp {W W1 : World} {R : Nat} {ok S : Nat → Prop} {rows : List S69} (h : RefB W R ok rows) (hs : Stp S W W1) (hR : ¬ S R) (hok : ∀ k, ok k → ¬ S k) : RefB W1 R ok rows :=
  h.step (hs.block R h.lt hR) (fun k hk hlt => hs.block k hlt (hok k hk))

theorem addp {b o j : Nat} : (⟨b, o, none⟩ : Addr).add j = ⟨b, o + j, none⟩ := by unfold Addr.add; split <;> simp_all
/-- a row of rows: its cells -/
theorem R_addr {w : World} {A : Option Addr} {n : Nat} {l : List S69} (h : k69.C w A n l) (hn : 0 < n) :
    ∃ b o, A = some ⟨b, o, none⟩ ∧ b < w.heap.size ∧ ∀ j (hj : j < l.length), ∃ A1 c1, w.cell? ⟨b, o + j * 3, none⟩ = some (.int .i64 l[j].f0) ∧ w.cell? ⟨b, o + j * 3 + 1, none⟩ = some (.bool l[j].f1) ∧ w.cell? ⟨b, o + j * 3 + 2, none⟩ = some (.slice A1 l[j].f2.length c1) ∧ l[j].f2.length ≤ c1 ∧ k33.C w A1 l[j].f2.length l[j].f2 := by
  obtain ⟨ad, rfl, hc⟩ := h.2.2 hn
  have key : ∀ j (hj : j < l.length), ∃ A1 c1, w.cell? (ad.add (j * 3)) = some (.int .i64 l[j].f0) ∧ w.cell? (ad.add (j * 3 + 1)) = some (.bool l[j].f1) ∧ w.cell? (ad.add (j * 3 + 2)) = some (.slice A1 l[j].f2.length c1) ∧ l[j].f2.length ≤ c1 ∧ k33.C w A1 l[j].f2.length l[j].f2 := fun j hj => by
    obtain ⟨c, hc1, hK, hcell⟩ := hc j _ (List.getElem?_eq_getElem hj)
    obtain ⟨A1, c1, rfl, l1, g1⟩ := k69_open hK
    exact ⟨A1, c1, hcell 0 _ rfl, hcell 1 _ rfl, hcell 2 _ rfl, l1, g1⟩
  have hl := h.1
  obtain ⟨_, _, h0, _⟩ := key 0 (by omega)
  have hs := spot_none h0
  obtain ⟨b, o, sp⟩ := ad
  simp only [Nat.zero_mul, Addr.add, if_true] at hs
  subst hs
  refine ⟨b, o, rfl, World.block_lt_of_cell? w _ h0, fun j hj => ?_⟩
  obtain ⟨A1, c1, h1, h2, h3, h4, h5⟩ := key j hj
  refine ⟨A1, c1, ?_, ?_, ?_, h4, h5⟩
  · rw [addp] at h1; exact h1
  · rw [addp] at h2; exact h2
  · rw [addp] at h3; exact h3

def rfind (rows : List S69) (id : Int) : Int := idxP (fun r : S69 => r.f0 == id) rows

set_option maxRecDepth 100000 in
set_option maxHeartbeats 1000000 in
theorem find_any (R : Nat) (rows : List S69) (id : Int) (w : World) (ok : Nat → Prop) (hR : RefB w R ok rows) :
    Calls Try.prog 43 #[.pointer (some ⟨R, 0, none⟩), .int .i64 id] w fun e w' => e = .returned (.int .i64 (rfind rows id)) ∧ w = w' := by
  obtain ⟨v, hb, hN, hn⟩ := hR
  obtain ⟨A, c, rfl, hlc, hC⟩ := Kd.N_reads hN
  have cR : w.cell? ⟨R, 0, none⟩ = some (.slice A rows.length c) := by rw [cell_blk hb]; rfl
  have hmax := C_max hC
  have HC := Lib.hid hC
  have hb' := Lib.hid hb
  clear hC hb
  go_enter Try.func43, Try.ntmps43
  go_wp2
  go_loopw [5] (fun i W => ∃ k : Nat, k ≤ rows.length ∧ i = .int .i64 k ∧ (∀ j (hj : j < k) (hk : j < rows.length), (rows[j].f0 == id) = false) ∧ W = w) (fun i _ => rows.length - (intOf i).toNat)
  case atStart => exact ⟨0, Nat.zero_le _, rfl, fun j hj => by omega, rfl⟩
  case round =>
    obtain ⟨k, hk, rfl, hno, rfl⟩ := hrel
    by_cases hlt : k < rows.length
    · obtain ⟨b, o, rfl, hbl, hcs⟩ := R_addr HC.out (by omega)
      obtain ⟨A1, c1, e0, e1, e2, l1, g1⟩ := hcs k hlt
      clear hcs
      by_cases hp : rows[k].f0 = id
      · have Hp := Lib.hid hp
        go_wp2
        go_ret
        exact ⟨by rw [show rfind rows id = (k : Int) from idxP_hit (p := fun r : S69 => r.f0 == id) hlt (by simpa using Hp.out) (fun j hj => hno j hj (by omega))]; rfl, rfl⟩
      · go_wp2
        refine ⟨?rel0, ?measure⟩
        case rel0 =>
          refine ⟨k + 1, by omega, by go_num, fun j hj hjl => ?_, by first | rfl | trivial⟩
          by_cases e : j = k
          · subst e; simpa using hp
          · exact hno j (by omega) hjl
        case measure => simp [intOf]; omega
    · go_wp2
      go_ret
      exact ⟨by rw [show rfind rows id = -1 from idxP_none (fun j hj => hno j (by omega) hj)]; rfl, rfl⟩
end Go.Proofs.Ytbmnefdiiibabaa

namespace Go.Proofs.Ytbmnefdiiibabaa
set_option linter.unusedVariables false
set_option linter.unusedSimpArgs false
open Go.RowKit Go.Maps Go.Sort Go.Shelf Go.Proofs.YtbmnefdiiibabaaW.PrintWords Go.Proofs.YtbmnefdiiibabaaW.PrintMore PTruthPlays

def rpos (rows : List S69) (id : Int) : Nat := (rows.takeWhile (fun r => decide (r.f0 < id))).length
theorem rpos_le (rows : List S69) (id : Int) : rpos rows id ≤ rows.length := (List.takeWhile_sublist _).length_le
theorem rpos_eq : ∀ {rows : List S69} {id : Int} {k : Nat}, k ≤ rows.length → (∀ j (hj : j < k) (h : j < rows.length), rows[j].f0 < id) → (∀ h : k < rows.length, ¬ rows[k].f0 < id) → rpos rows id = k
  | [], id, k, hk, _, _ => by simp at hk; subst hk; rfl
  | r :: rows, id, 0, _, _, h => by
    have := h (by simp)
    simp only [List.getElem_cons_zero] at this
    unfold rpos
    rw [List.takeWhile_cons_of_neg (by simpa using this)]; rfl
  | r :: rows, id, k + 1, hk, h1, h2 => by
    have h0 := h1 0 (by omega) (by simp)
    simp only [List.getElem_cons_zero] at h0
    unfold rpos
    rw [List.takeWhile_cons_of_pos (by simpa using h0), List.length_cons]
    have := rpos_eq (rows := rows) (id := id) (k := k) (by simpa using hk) (fun j hj h => by have := h1 (j + 1) (by omega) (by simpa using h); simpa using this) (fun h => by have := h2 (by simpa using h); simpa using this)
    unfold rpos at this
    rw [this]
def rnew (id : Int) : S69 := ⟨id, false, []⟩
def rins (rows : List S69) (id : Int) : List S69 := rows.take (rpos rows id) ++ rnew id :: rows.drop (rpos rows id)

theorem info69 : (Try.prog.info? 69).map (fun i => (i.zero, i.size, i.bytes)) = some (some (.agg #[.int .i64 0, .bool false, .slice none 0 0]), 3, 40) := by kernel_rfl

/-- the book's slice: nil, or a block of its own -/
theorem RefB.cases {W : World} {ok : Nat → Prop} {v : Value} {rows : List S69} (h : Kd.N k69 69 W 0 ok v rows) : (v = .slice none 0 0 ∧ rows = []) ∨ ∃ g cap, v = .slice (some ⟨g, 0, none⟩) rows.length cap ∧ rows.length ≤ cap := by
  obtain ⟨h0, rr, hl, ⟨hr0, inner, ⟨hi1, hi2⟩, hr⟩, hf⟩ := h
  rcases hi2 with ⟨rfl, hin⟩ | ⟨g, cap, cur, rfl, hbase, hg, h1, h2, h3, h4⟩
  · exact .inl ⟨rfl, List.eq_nil_of_length_eq_zero (by omega)⟩
  · exact .inr ⟨g, cap, by rw [hl], by omega⟩

theorem row_end {w w3 : World} {R : Nat} {ok : Nat → Prop} {rows : List S69} {id : Int} {k : Nat} {v3 u : Value} (hN3 : Kd.N k69 69 w3 w.heap.size (fun i => ok i ∨ w.heap.size ≤ i) v3 (rows.take k ++ [rnew id] ++ rows.drop k)) (hB3 : Below w.heap.size w w3)
    (hR3 : w3.heap[R]? = some (.cells #[u] 30 (0, 0))) (hRl : R < w.heap.size) (hn : ¬ ok R) (hk : rpos rows id = k) : RefB (w3.setCell ⟨R, 0, none⟩ v3) R (fun i => ok i ∨ w.heap.size ≤ i) (rins rows id) := by
  have h := blk_set hR3 0 v3
  have e : rins rows id = rows.take k ++ [rnew id] ++ rows.drop k := by
    unfold rins
    rw [hk, List.append_assoc]; rfl
  have hnR : ¬ (ok R ∨ w.heap.size ≤ R) := by rintro (h | h); exact hn h; omega
  refine ⟨v3, h, ?_, hnR⟩
  rw [e]
  exact Kd.N_lower (Kd.N_far hN3 (p := ⟨R, 0, none⟩) (fun i hi e => hnR (by have e : i = R := e; rw [e] at hi; exact hi)) v3) (Nat.zero_le _)

set_option maxRecDepth 100000 in
set_option maxHeartbeats 2000000 in
theorem row_any (R : Nat) (rows : List S69) (id : Int) (w : World) (ok : Nat → Prop) (hR : RefB w R ok rows) (hok : ∀ i, ok i → i < w.heap.size) (hlen : rows.length ≤ 1000) :
    Calls Try.prog 49 #[.pointer (some ⟨R, 0, none⟩), .int .i64 id] w fun e w' => ∃ (rows' : List S69) (k : Nat), ((0 ≤ rfind rows id ∧ rows' = rows ∧ rfind rows id = k) ∨ (rfind rows id = -1 ∧ rows' = rins rows id ∧ k = rpos rows id)) ∧ e = .returned (.int .i64 k) ∧ RefB w' R (fun i => ok i ∨ w.heap.size ≤ i) rows' ∧ Stp (· = R) w w' := by
  have hfi := find_any R rows id w ok hR
  obtain ⟨v, hb, hN, hn⟩ := hR
  have hRl := blk_lt' hb
  have hcase : rfind rows id = -1 ∨ ∃ k : Nat, rfind rows id = k := by
    unfold rfind idxP
    cases rows.findIdx? (fun r => r.f0 == id) with
    | none => exact .inl rfl
    | some i => exact .inr ⟨i, rfl⟩
  rcases hcase with hf | ⟨k, hf⟩
  · rw [hf] at hfi
    have hfi2 := Lib.hid hfi
    have HF := Lib.hid hf
    clear hfi hf
    rcases RefB.cases hN with ⟨rfl, rfl⟩ | ⟨g, c, rfl, hlc⟩
    · have cR : w.cell? ⟨R, 0, none⟩ = some (.slice none 0 0) := by rw [cell_blk hb]; rfl
      have HB := Lib.hid hb
      clear hb
      have hoke : ∀ i, ok i → (ok i ∨ w.heap.size ≤ i) ∧ some i ≠ (Value.slice (some ⟨w.heap.size, 0, none⟩) 0 0).ownBlock := fun i hi => ⟨.inl hi, fun e => by have := hok i hi; simp [Value.ownBlock] at e; omega⟩
      have hFF := Kd.N_F hN
      go_enter Try.func49, Try.ntmps49
      go_wp2_with (go_at_call 43; refine (hfi2.out).mono ?_; rintro e w' ⟨rfl, rfl⟩)
      have hNe := N_empty k69 69 w w.heap.size (fun i => ok i ∨ w.heap.size ≤ i) (Nat.le_refl _) (.inr (Nat.le_refl _))
      have hBe : Below w.heap.size w (w.alloc (.cells #[] 69)) := (Below.refl _ _).alloc (Nat.le_refl _) _
      refine wp_loop_rounds 1 ?_
      rw [rounds_succ]
      go_wp2_with (first
        | (at_builtin; refine Kd.N_append_rows (w0 := w) k69 w.heap.size rfl _ _ 28 69 (.agg #[.int .i64 0, .bool false, .slice none 0 0]) 40 rfl Try.underlying28 info69 rfl (by decide) (by decide) (.slice (some ⟨w.heap.size, 0, none⟩) 0 0) [] [] none 0 0 (fun i => ok i ∨ w.heap.size ≤ i) ok rfl rfl hNe (Kd.F_nil _ _ _) hoke (fun i hi => .inr (by simp at hi; omega)) hBe (by simp) (by simp) ?_; intro v1 w1 hN1 hB1 hg1 hat1; have hR1 := (hB1.block R hRl).trans HB.out; have cR1 : w1.cell? ⟨R, 0, none⟩ = some (.slice none 0 0) := (by rw [cell_blk hR1]; rfl))
        | (at_builtin; refine Kd.N_append (w0 := w) k69 w.heap.size rfl _ _ 28 69 (.agg #[.int .i64 0, .bool false, .slice none 0 0]) 40 rfl Try.underlying28 info69 rfl (by decide) (by decide) v1 [] (rnew id) [.int .i64 id, .bool false, .slice none 0 0] (fun i => ok i ∨ w.heap.size ≤ i) (fun _ => False) rfl rfl (k69_mkF _ _ (rnew id) (A2 := none) (c2 := 0) (Nat.le_refl _) (Kd.F_nil _ _ _)) (fun _ h => h.elim) (fun i hi => .inr (by have := hB1.size; omega)) hN1 hB1 hB1.size (by simp) ?_; intro v2 w2 hN2 hB2 hg2 hat2; have hR2 := (hB2.block R hRl).trans HB.out; have cR2 : w2.cell? ⟨R, 0, none⟩ = some (.slice none 0 0) := (by rw [cell_blk hR2]; rfl))
        | (at_builtin; refine Kd.N_append_rows (w0 := w) k69 w.heap.size rfl _ _ 28 69 (.agg #[.int .i64 0, .bool false, .slice none 0 0]) 40 rfl Try.underlying28 info69 rfl (by decide) (by decide) v2 [rnew id] [] none 0 0 (fun i => ok i ∨ w.heap.size ≤ i) ok rfl rfl hN2 (Kd.F_nil _ _ _) (fun i hi => ⟨.inl hi, fun e => by have := Kd.N_base hN2 i e.symm; have := hok i hi; omega⟩) (fun i hi => .inr (by have := hB2.size; omega)) hB2 hB2.size (by simp) ?_; intro v3 w3 hN3 hB3 hg3 hat3; have hR3 := (hB3.block R hRl).trans HB.out; have cR3 : w3.cell? ⟨R, 0, none⟩ = some (.slice none 0 0) := (by rw [cell_blk hR3]; rfl); have fR3 : w3.frozen? ⟨R, 0, none⟩ = false := blk_frozen hR3 0; obtain ⟨A3, c3, rfl⟩ := Kd.N_slice hN3))
      go_ret
      refine ⟨rins [] id, 0, .inr ⟨HF.out, rfl, rfl⟩, rfl, row_end (rows := []) (k := 0) hN3 hB3 hR3 hRl hn rfl, ?_⟩
      exact (Stp.of_below (S := (· = R)) hB3).setCell (p := ⟨R, 0, none⟩) (.inl rfl) _
    · have cR : w.cell? ⟨R, 0, none⟩ = some (.slice (some ⟨g, 0, none⟩) rows.length c) := by rw [cell_blk hb]; rfl
      have hC := (Kd.N_reads' hN).2.2
      have HC := Lib.hid hC
      have HB := Lib.hid hb
      clear hC hb
      have hoke : ∀ i, ok i → (ok i ∨ w.heap.size ≤ i) ∧ some i ≠ (Value.slice (some ⟨w.heap.size, 0, none⟩) 0 0).ownBlock := fun i hi => ⟨.inl hi, fun e => by have := hok i hi; simp [Value.ownBlock] at e; omega⟩
      have hFF := Kd.N_F hN
      go_enter Try.func49, Try.ntmps49
      go_wp2_with (go_at_call 43; refine (hfi2.out).mono ?_; rintro e w' ⟨rfl, rfl⟩)
      go_loopw [5] (fun i W => ∃ k : Nat, k ≤ rows.length ∧ i = .int .i64 k ∧ (∀ j (hj : j < k) (hk : j < rows.length), rows[j].f0 < id) ∧ w = W) (fun i _ => rows.length - (intOf i).toNat)
      case atStart => exact ⟨0, Nat.zero_le _, rfl, fun j hj => by omega, rfl⟩
      case round =>
        obtain ⟨k, hk, rfl, hno, rfl⟩ := hrel
        by_cases hlt : k < rows.length
        · obtain ⟨ab, ao, hab, hbl, hcs⟩ := R_addr HC.out (by omega)
          injection hab with hab
          injection hab with hab1 hab2
          subst hab1; subst hab2
          obtain ⟨A1, c1, e0, e1, e2, l1, g1⟩ := hcs k hlt
          clear hcs
          rw [Nat.zero_add] at e0 e1 e2
          by_cases hp : rows[k].f0 < id
          · go_wp2
            refine ⟨?rel0, ?measure⟩
            case rel0 =>
              refine ⟨k + 1, by omega, by go_num, fun j hj hjl => ?_, by first | rfl | trivial⟩
              by_cases e : j = k
              · subst e; exact hp
              · exact hno j (by omega) hjl
            case measure => simp [intOf]; omega
          · have hpos := Lib.hid (rpos_eq hk hno (fun _ => hp))
            have hck : ¬ c = k := by omega
            have hNe := N_empty k69 69 w w.heap.size (fun i => ok i ∨ w.heap.size ≤ i) (Nat.le_refl _) (.inr (Nat.le_refl _))
            have hBe : Below w.heap.size w (w.alloc (.cells #[] 69)) := (Below.refl _ _).alloc (Nat.le_refl _) _
            have hFt : Kd.F k69 (w.alloc (.cells #[] 69)) ok (some ⟨g, 0, none⟩) k (rows.take k) := Kd.F_alloc (by have := Kd.F_take hFF (m := k) hk; rw [List.length_take, Nat.min_eq_left hk] at this; exact this) _
            have hFd : Kd.F k69 w ok (some ⟨g, k * 3, none⟩) (rows.length - k) (rows.drop k) := by have := Kd.F_cut (c := c) hFF hk hlc; rw [List.length_drop, if_neg hck, Option.map_some, addp, Nat.zero_add] at this; exact this
            have hke : (rows.take k).length = k := by rw [List.length_take]; omega
            go_wp2_with (first
              | (at_builtin; refine Kd.N_append_rows (w0 := w) k69 w.heap.size rfl _ _ 28 69 (.agg #[.int .i64 0, .bool false, .slice none 0 0]) 40 rfl Try.underlying28 info69 rfl (by decide) (by decide) (.slice (some ⟨w.heap.size, 0, none⟩) 0 0) [] (rows.take k) (some ⟨g, 0, none⟩) k c (fun i => ok i ∨ w.heap.size ≤ i) ok rfl rfl hNe hFt hoke (fun i hi => .inr (by simp at hi; omega)) hBe (by simp) (by simp; omega) ?_; intro v1 w1 hN1 hB1 hg1 hat1; have hR1 := (hB1.block R hRl).trans HB.out; have cR1 : w1.cell? ⟨R, 0, none⟩ = some (.slice (some ⟨g, 0, none⟩) rows.length c) := (by rw [cell_blk hR1]; rfl))
              | (at_builtin; refine Kd.N_append (w0 := w) k69 w.heap.size rfl _ _ 28 69 (.agg #[.int .i64 0, .bool false, .slice none 0 0]) 40 rfl Try.underlying28 info69 rfl (by decide) (by decide) v1 (rows.take k) (rnew id) [.int .i64 id, .bool false, .slice none 0 0] (fun i => ok i ∨ w.heap.size ≤ i) (fun _ => False) rfl rfl (k69_mkF _ _ (rnew id) (A2 := none) (c2 := 0) (Nat.le_refl _) (Kd.F_nil _ _ _)) (fun _ h => h.elim) (fun i hi => .inr (by have := hB1.size; omega)) hN1 hB1 hB1.size (by omega) ?_; intro v2 w2 hN2 hB2 hg2 hat2; have hR2 := (hB2.block R hRl).trans HB.out; have cR2 : w2.cell? ⟨R, 0, none⟩ = some (.slice (some ⟨g, 0, none⟩) rows.length c) := (by rw [cell_blk hR2]; rfl))
              | (at_builtin; refine Kd.N_append_rows (w0 := w) k69 w.heap.size rfl _ _ 28 69 (.agg #[.int .i64 0, .bool false, .slice none 0 0]) 40 rfl Try.underlying28 info69 rfl (by decide) (by decide) v2 (rows.take k ++ [rnew id]) (rows.drop k) (some ⟨g, k * 3, none⟩) (rows.length - k) (c - k) (fun i => ok i ∨ w.heap.size ≤ i) ok rfl rfl hN2 (Kd.F_step hFd (fun i hi hlt => hB2.block i hlt)) (fun i hi => ⟨.inl hi, fun e => by have := Kd.N_base hN2 i e.symm; have := hok i hi; omega⟩) (fun i hi => .inr (by have := hB2.size; omega)) hB2 hB2.size (by simp; omega) ?_; intro v3 w3 hN3 hB3 hg3 hat3; have hR3 := (hB3.block R hRl).trans HB.out; have cR3 : w3.cell? ⟨R, 0, none⟩ = some (.slice (some ⟨g, 0, none⟩) rows.length c) := (by rw [cell_blk hR3]; rfl); have fR3 : w3.frozen? ⟨R, 0, none⟩ = false := blk_frozen hR3 0; obtain ⟨A3, c3, rfl⟩ := Kd.N_slice hN3))
            go_ret
            have hlen3 : (rows.take k ++ [rnew id] ++ rows.drop k).length = k + (rows.length - k + 1) := by simp; omega
            rw [hlen3] at hN3
            refine ⟨rins rows id, k, .inr ⟨HF.out, rfl, hpos.out.symm⟩, rfl, row_end hN3 hB3 hR3 hRl hn hpos.out, ?_⟩
            exact (Stp.of_below (S := (· = R)) hB3).setCell (p := ⟨R, 0, none⟩) (.inl rfl) _
        · have hpos := Lib.hid (rpos_eq hk hno (fun h => absurd h hlt))
          by_cases hck : c = k
          · subst hck
            have hz : rows.length - c = 0 := by omega
            have hNe := N_empty k69 69 w w.heap.size (fun i => ok i ∨ w.heap.size ≤ i) (Nat.le_refl _) (.inr (Nat.le_refl _))
            have hBe : Below w.heap.size w (w.alloc (.cells #[] 69)) := (Below.refl _ _).alloc (Nat.le_refl _) _
            have hFt : Kd.F k69 (w.alloc (.cells #[] 69)) ok (some ⟨g, 0, none⟩) c (rows.take c) := Kd.F_alloc (by have := Kd.F_take hFF (m := c) hk; rw [List.length_take, Nat.min_eq_left hk] at this; exact this) _
            have hFd : Kd.F k69 w ok (some ⟨g, 0, none⟩) 0 (rows.drop c) := by have := Kd.F_cut (m := c) (c := c) hFF hk hlc; rw [List.length_drop, if_pos rfl, hz] at this; exact this
            have hke : (rows.take c).length = c := by rw [List.length_take]; omega
            go_wp2_with (first
              | (at_builtin; refine Kd.N_append_rows (w0 := w) k69 w.heap.size rfl _ _ 28 69 (.agg #[.int .i64 0, .bool false, .slice none 0 0]) 40 rfl Try.underlying28 info69 rfl (by decide) (by decide) (.slice (some ⟨w.heap.size, 0, none⟩) 0 0) [] (rows.take c) (some ⟨g, 0, none⟩) c c (fun i => ok i ∨ w.heap.size ≤ i) ok rfl rfl hNe hFt hoke (fun i hi => .inr (by simp at hi; omega)) hBe (by simp) (by simp; omega) ?_; intro v1 w1 hN1 hB1 hg1 hat1; have hR1 := (hB1.block R hRl).trans HB.out; have cR1 : w1.cell? ⟨R, 0, none⟩ = some (.slice (some ⟨g, 0, none⟩) rows.length c) := (by rw [cell_blk hR1]; rfl))
              | (at_builtin; refine Kd.N_append (w0 := w) k69 w.heap.size rfl _ _ 28 69 (.agg #[.int .i64 0, .bool false, .slice none 0 0]) 40 rfl Try.underlying28 info69 rfl (by decide) (by decide) v1 (rows.take c) (rnew id) [.int .i64 id, .bool false, .slice none 0 0] (fun i => ok i ∨ w.heap.size ≤ i) (fun _ => False) rfl rfl (k69_mkF _ _ (rnew id) (A2 := none) (c2 := 0) (Nat.le_refl _) (Kd.F_nil _ _ _)) (fun _ h => h.elim) (fun i hi => .inr (by have := hB1.size; omega)) hN1 hB1 hB1.size (by omega) ?_; intro v2 w2 hN2 hB2 hg2 hat2; have hR2 := (hB2.block R hRl).trans HB.out; have cR2 : w2.cell? ⟨R, 0, none⟩ = some (.slice (some ⟨g, 0, none⟩) rows.length c) := (by rw [cell_blk hR2]; rfl))
              | (at_builtin; refine Kd.N_append_rows (w0 := w) k69 w.heap.size rfl _ _ 28 69 (.agg #[.int .i64 0, .bool false, .slice none 0 0]) 40 rfl Try.underlying28 info69 rfl (by decide) (by decide) v2 (rows.take c ++ [rnew id]) (rows.drop c) (some ⟨g, 0, none⟩) 0 0 (fun i => ok i ∨ w.heap.size ≤ i) ok rfl rfl hN2 (Kd.F_step hFd (fun i hi hlt => hB2.block i hlt)) (fun i hi => ⟨.inl hi, fun e => by have := Kd.N_base hN2 i e.symm; have := hok i hi; omega⟩) (fun i hi => .inr (by have := hB2.size; omega)) hB2 hB2.size (by simp; omega) ?_; intro v3 w3 hN3 hB3 hg3 hat3; have hR3 := (hB3.block R hRl).trans HB.out; have cR3 : w3.cell? ⟨R, 0, none⟩ = some (.slice (some ⟨g, 0, none⟩) rows.length c) := (by rw [cell_blk hR3]; rfl); have fR3 : w3.frozen? ⟨R, 0, none⟩ = false := blk_frozen hR3 0; obtain ⟨A3, c3, rfl⟩ := Kd.N_slice hN3))
            go_ret
            have hlen3 : (rows.take c ++ [rnew id] ++ rows.drop c).length = c + 1 := by simp; omega
            rw [hlen3] at hN3
            refine ⟨rins rows id, c, .inr ⟨HF.out, rfl, hpos.out.symm⟩, rfl, row_end hN3 hB3 hR3 hRl hn hpos.out, ?_⟩
            exact (Stp.of_below (S := (· = R)) hB3).setCell (p := ⟨R, 0, none⟩) (.inl rfl) _
          · have hNe := N_empty k69 69 w w.heap.size (fun i => ok i ∨ w.heap.size ≤ i) (Nat.le_refl _) (.inr (Nat.le_refl _))
            have hBe : Below w.heap.size w (w.alloc (.cells #[] 69)) := (Below.refl _ _).alloc (Nat.le_refl _) _
            have hFt : Kd.F k69 (w.alloc (.cells #[] 69)) ok (some ⟨g, 0, none⟩) k (rows.take k) := Kd.F_alloc (by have := Kd.F_take hFF (m := k) hk; rw [List.length_take, Nat.min_eq_left hk] at this; exact this) _
            have hFd : Kd.F k69 w ok (some ⟨g, k * 3, none⟩) (rows.length - k) (rows.drop k) := by have := Kd.F_cut (c := c) hFF hk hlc; rw [List.length_drop, if_neg hck, Option.map_some, addp, Nat.zero_add] at this; exact this
            have hke : (rows.take k).length = k := by rw [List.length_take]; omega
            go_wp2_with (first
              | (at_builtin; refine Kd.N_append_rows (w0 := w) k69 w.heap.size rfl _ _ 28 69 (.agg #[.int .i64 0, .bool false, .slice none 0 0]) 40 rfl Try.underlying28 info69 rfl (by decide) (by decide) (.slice (some ⟨w.heap.size, 0, none⟩) 0 0) [] (rows.take k) (some ⟨g, 0, none⟩) k c (fun i => ok i ∨ w.heap.size ≤ i) ok rfl rfl hNe hFt hoke (fun i hi => .inr (by simp at hi; omega)) hBe (by simp) (by simp; omega) ?_; intro v1 w1 hN1 hB1 hg1 hat1; have hR1 := (hB1.block R hRl).trans HB.out; have cR1 : w1.cell? ⟨R, 0, none⟩ = some (.slice (some ⟨g, 0, none⟩) rows.length c) := (by rw [cell_blk hR1]; rfl))
              | (at_builtin; refine Kd.N_append (w0 := w) k69 w.heap.size rfl _ _ 28 69 (.agg #[.int .i64 0, .bool false, .slice none 0 0]) 40 rfl Try.underlying28 info69 rfl (by decide) (by decide) v1 (rows.take k) (rnew id) [.int .i64 id, .bool false, .slice none 0 0] (fun i => ok i ∨ w.heap.size ≤ i) (fun _ => False) rfl rfl (k69_mkF _ _ (rnew id) (A2 := none) (c2 := 0) (Nat.le_refl _) (Kd.F_nil _ _ _)) (fun _ h => h.elim) (fun i hi => .inr (by have := hB1.size; omega)) hN1 hB1 hB1.size (by omega) ?_; intro v2 w2 hN2 hB2 hg2 hat2; have hR2 := (hB2.block R hRl).trans HB.out; have cR2 : w2.cell? ⟨R, 0, none⟩ = some (.slice (some ⟨g, 0, none⟩) rows.length c) := (by rw [cell_blk hR2]; rfl))
              | (at_builtin; refine Kd.N_append_rows (w0 := w) k69 w.heap.size rfl _ _ 28 69 (.agg #[.int .i64 0, .bool false, .slice none 0 0]) 40 rfl Try.underlying28 info69 rfl (by decide) (by decide) v2 (rows.take k ++ [rnew id]) (rows.drop k) (some ⟨g, k * 3, none⟩) (rows.length - k) (c - k) (fun i => ok i ∨ w.heap.size ≤ i) ok rfl rfl hN2 (Kd.F_step hFd (fun i hi hlt => hB2.block i hlt)) (fun i hi => ⟨.inl hi, fun e => by have := Kd.N_base hN2 i e.symm; have := hok i hi; omega⟩) (fun i hi => .inr (by have := hB2.size; omega)) hB2 hB2.size (by simp; omega) ?_; intro v3 w3 hN3 hB3 hg3 hat3; have hR3 := (hB3.block R hRl).trans HB.out; have cR3 : w3.cell? ⟨R, 0, none⟩ = some (.slice (some ⟨g, 0, none⟩) rows.length c) := (by rw [cell_blk hR3]; rfl); have fR3 : w3.frozen? ⟨R, 0, none⟩ = false := blk_frozen hR3 0; obtain ⟨A3, c3, rfl⟩ := Kd.N_slice hN3))
            go_ret
            have hlen3 : (rows.take k ++ [rnew id] ++ rows.drop k).length = k + (rows.length - k + 1) := by simp; omega
            rw [hlen3] at hN3
            refine ⟨rins rows id, k, .inr ⟨HF.out, rfl, hpos.out.symm⟩, rfl, row_end hN3 hB3 hR3 hRl hn hpos.out, ?_⟩
            exact (Stp.of_below (S := (· = R)) hB3).setCell (p := ⟨R, 0, none⟩) (.inl rfl) _
  · rw [hf] at hfi
    have hfi2 := Lib.hid hfi
    have HF := Lib.hid hf
    clear hfi hf
    go_enter Try.func49, Try.ntmps49
    go_wp2_with (go_at_call 43; refine (hfi2.out).mono ?_; rintro e w' ⟨rfl, rfl⟩)
    go_ret
    exact ⟨rows, k, .inl ⟨by rw [HF.out]; omega, rfl, HF.out⟩, rfl, ⟨v, hb, Kd.N_mono hN (fun _ h => .inl h), by rintro (h | h); exact hn h; omega⟩, Stp.refl _ _⟩
end Go.Proofs.Ytbmnefdiiibabaa

namespace Go.Proofs.Ytbmnefdiiibabaa
set_option linter.unusedVariables false
set_option linter.unusedSimpArgs false
open Go.RowKit Go.Maps Go.Sort Go.Shelf Go.Proofs.YtbmnefdiiibabaaW.PrintWords Go.Proofs.YtbmnefdiiibabaaW.PrintMore PTruthPlays

def rget (rows : List S69) (id : Int) : Option S69 := rows.find? (fun r => r.f0 == id)
theorem rfind_cases (rows : List S69) (id : Int) : (rfind rows id = -1 ∧ rget rows id = none) ∨ ∃ k, ∃ hk : k < rows.length, rfind rows id = k ∧ rget rows id = some rows[k] := by
  unfold rfind idxP rget
  cases h : rows.findIdx? (fun r : S69 => r.f0 == id) with
  | none =>
    left
    rw [List.findIdx?_eq_none_iff] at h
    exact ⟨rfl, List.find?_eq_none.2 (fun x hx => by simpa using h x hx)⟩
  | some i =>
    right
    rw [List.findIdx?_eq_some_iff_getElem] at h
    obtain ⟨hi, hp, hb⟩ := h
    refine ⟨i, hi, rfl, ?_⟩
    rw [List.find?_eq_some_iff_getElem]
    exact ⟨hp, i, hi, rfl, fun j hj => by simpa using hb j hj⟩
def rplainOf (rows : List S69) (id : Int) : Bool := ((rget rows id).map (·.f1)).getD false
def rlistOf (rows : List S69) (id : Int) : List S33 := ((rget rows id).map (·.f2)).getD []

set_option maxRecDepth 100000 in
set_option maxHeartbeats 1000000 in
theorem risplain_any (R : Nat) (rows : List S69) (id : Int) (w : World) (ok : Nat → Prop) (hR : RefB w R ok rows) :
    Calls Try.prog 15 #[.pointer (some ⟨R, 0, none⟩), .int .i64 id] w fun e w' => e = .returned (.bool (rplainOf rows id)) ∧ w = w' := by
  have hfi := find_any R rows id w ok hR
  obtain ⟨v, hb, hN, hn⟩ := hR
  obtain ⟨A, c, rfl, hlc, hC⟩ := Kd.N_reads hN
  have hmax := C_max hC
  have cR : w.cell? ⟨R, 0, none⟩ = some (.slice A rows.length c) := by rw [cell_blk hb]; rfl
  rcases rfind_cases rows id with ⟨hf, hg⟩ | ⟨k, hk, hf, hg⟩
  · rw [hf] at hfi
    have HFI := Lib.hid hfi
    have HG := Lib.hid hg
    clear hfi hf hg hC hb
    go_enter Try.func15, Try.ntmps15
    go_wp2_with (go_at_call 43; refine (HFI.out).mono ?_; rintro e w' ⟨rfl, rfl⟩)
    go_ret
    exact ⟨by unfold rplainOf; rw [HG.out]; rfl, rfl⟩
  · obtain ⟨ab, ao, rfl, hbl, hcs⟩ := R_addr hC (by omega)
    obtain ⟨A1, c1, e0, e1, e2, l1, g1⟩ := hcs k hk
    rw [hf] at hfi
    have HFI := Lib.hid hfi
    have HG := Lib.hid hg
    clear hfi hf hg hC hb hcs
    go_enter Try.func15, Try.ntmps15
    go_wp2_with (go_at_call 43; refine (HFI.out).mono ?_; rintro e w' ⟨rfl, rfl⟩)
    go_ret
    exact ⟨by unfold rplainOf; rw [HG.out]; rfl, rfl⟩

set_option maxRecDepth 100000 in
set_option maxHeartbeats 1000000 in
theorem rof_any (R : Nat) (rows : List S69) (id : Int) (w : World) (ok : Nat → Prop) (hR : RefB w R ok rows) :
    Calls Try.prog 17 #[.pointer (some ⟨R, 0, none⟩), .int .i64 id] w fun e w' => ∃ A c, e = .returned (.slice A (rlistOf rows id).length c) ∧ (rlistOf rows id).length ≤ c ∧ k33.C w A (rlistOf rows id).length (rlistOf rows id) ∧ w = w' := by
  have hfi := find_any R rows id w ok hR
  obtain ⟨v, hb, hN, hn⟩ := hR
  obtain ⟨A, c, rfl, hlc, hC⟩ := Kd.N_reads hN
  have hmax := C_max hC
  have cR : w.cell? ⟨R, 0, none⟩ = some (.slice A rows.length c) := by rw [cell_blk hb]; rfl
  rcases rfind_cases rows id with ⟨hf, hg⟩ | ⟨k, hk, hf, hg⟩
  · rw [hf] at hfi
    have HFI := Lib.hid hfi
    have hr : rlistOf rows id = [] := by unfold rlistOf; rw [hg]; rfl
    have HG := Lib.hid hr
    clear hfi hf hg hC hb hr
    go_enter Try.func17, Try.ntmps17
    go_wp2_with (go_at_call 43; refine (HFI.out).mono ?_; rintro e w' ⟨rfl, rfl⟩)
    go_ret
    rw [HG.out]
    exact ⟨none, 0, rfl, Nat.le_refl _, Kd.C_nil _ _, rfl⟩
  · obtain ⟨ab, ao, rfl, hbl, hcs⟩ := R_addr hC (by omega)
    obtain ⟨A1, c1, e0, e1, e2, l1, g1⟩ := hcs k hk
    rw [hf] at hfi
    have HFI := Lib.hid hfi
    have hr : rlistOf rows id = rows[k].f2 := by unfold rlistOf; rw [hg]; rfl
    have HG := Lib.hid hr
    clear hfi hf hg hC hb hcs hr
    go_enter Try.func17, Try.ntmps17
    go_wp2_with (go_at_call 43; refine (HFI.out).mono ?_; rintro e w' ⟨rfl, rfl⟩)
    go_ret
    rw [HG.out]
    exact ⟨A1, c1, rfl, l1, g1, rfl⟩
end Go.Proofs.Ytbmnefdiiibabaa

namespace Go.Proofs.Ytbmnefdiiibabaa
set_option linter.unusedVariables false
set_option linter.unusedSimpArgs false
open Go.RowKit Go.Maps Go.Sort Go.Shelf Go.Proofs.YtbmnefdiiibabaaW.PrintWords Go.Proofs.YtbmnefdiiibabaaW.PrintMore PTruthPlays

set_option maxRecDepth 100000 in
set_option maxHeartbeats 1000000 in
theorem rfacts_any (R : Nat) (rows : List S69) (w : World) (ok : Nat → Prop) (hR : RefB w R ok rows) (hlen : rows.length ≤ 1000) :
    Calls Try.prog 12 #[.pointer (some ⟨R, 0, none⟩)] w fun e w' => ∃ A c, e = .returned (.slice A (rows.map (·.f0)).length c) ∧ Kd.N ki 3 w' w.heap.size (fun i => w.heap.size ≤ i) (.slice A (rows.map (·.f0)).length c) (rows.map (·.f0)) ∧ Below w.heap.size w w' := by
  have hRl := hR.lt
  obtain ⟨v, hb, hN, hn⟩ := hR
  obtain ⟨A, c, rfl, hlc, hC⟩ := Kd.N_reads hN
  have hmax := C_max hC
  have HC := Lib.hid hC
  have HB := Lib.hid hb
  clear hC hb
  go_enter Try.func12, Try.ntmps12
  go_wp2
  go_loopw [3, 4] (fun vo vi W => ∃ k : Nat, k ≤ rows.length ∧ vi = .int .i64 k ∧ Kd.N ki 3 W w.heap.size (fun i => w.heap.size ≤ i) vo ((rows.take k).map (·.f0)) ∧ Below w.heap.size w W) (fun vo vi _ => rows.length - (intOf vi).toNat)
  case atStart => exact ⟨0, Nat.zero_le _, rfl, Kd.N_nil _ _ _ _ _, Below.refl _ _⟩
  case round =>
    obtain ⟨k, hk, rfl, hNo, hbw⟩ := hrel
    have hRr := (hbw.block R hRl).trans HB.out
    have cR : wr.cell? ⟨R, 0, none⟩ = some (.slice A rows.length c) := by rw [cell_blk hRr]; rfl
    have HRr := Lib.hid hRr
    clear hRr
    by_cases hlt : k < rows.length
    · obtain ⟨ab, ao, rfl, hbl, hcs⟩ := R_addr (Kd.C_below HC.out hbw) (by omega)
      obtain ⟨A1, c1, e0, e1, e2, l1, g1⟩ := hcs k hlt
      clear hcs
      have htl : ((rows.take k).map (·.f0)).length ≤ 1000 := by rw [List.length_map, List.length_take]; omega
      go_wp2_with (at_builtin; refine Kd.N_append (w0 := w) ki w.heap.size rfl _ _ 31 3 (.int .i64 0) 8 rfl Try.underlying31 info3 rfl (by decide) (by decide) u3 ((rows.take k).map (·.f0)) rows[k].f0 [.int .i64 rows[k].f0] (fun i => w.heap.size ≤ i) (fun _ => False) rfl rfl (fun W' _ => (rfl : [Value.int .i64 rows[k].f0] = [Value.int .i64 rows[k].f0])) (fun _ h => h.elim) (fun i hi => by have := hbw.size; omega) hNo hbw hbw.size (by omega) ?_; intro v4 w4 hN4 hB4 hg4 hat4)
      refine ⟨?rel0, ?measure⟩
      case rel0 =>
        refine ⟨k + 1, by omega, by go_num, ?_, hB4⟩
        rw [List.take_succ_eq_append_getElem hlt, List.map_append]; exact hN4
      case measure => simp [intOf]; omega
    · have hkl : k = rows.length := by omega
      subst hkl
      rw [List.take_length] at hNo
      obtain ⟨A3, c3, rfl⟩ := Kd.N_slice hNo
      go_wp2
      go_ret
      exact ⟨A3, c3, rfl, hNo, hbw⟩

set_option maxRecDepth 100000 in
set_option maxHeartbeats 1000000 in
theorem rcopy_any (R : Nat) (rows : List S69) (w : World) (ok : Nat → Prop) (hR : RefB w R ok rows) (hok : ∀ i, ok i → i < w.heap.size) (hlen : rows.length ≤ 1000) :
    Calls Try.prog 27 #[.pointer (some ⟨R, 0, none⟩)] w fun e w' => ∃ R', e = .returned (.pointer (some ⟨R', 0, none⟩)) ∧ w.heap.size ≤ R' ∧ RefB w' R' (fun i => (ok i ∨ w.heap.size ≤ i) ∧ i < R') rows ∧ Below w.heap.size w w' := by
  have hRl := hR.lt
  obtain ⟨v, hb, hN, hn⟩ := hR
  obtain ⟨A, c, rfl, hlc, hC⟩ := Kd.N_reads hN
  have cR : w.cell? ⟨R, 0, none⟩ = some (.slice A rows.length c) := by rw [cell_blk hb]; rfl
  have hNe := N_empty k69 69 w w.heap.size (fun i => ok i ∨ w.heap.size ≤ i) (Nat.le_refl _) (.inr (Nat.le_refl _))
  have hBe : Below w.heap.size w (w.alloc (.cells #[] 69)) := (Below.refl _ _).alloc (Nat.le_refl _) _
  have hF := Kd.F_alloc (Kd.N_F hN) (.cells #[] 69)
  have hoke : ∀ i, ok i → (ok i ∨ w.heap.size ≤ i) ∧ some i ≠ (Value.slice (some ⟨w.heap.size, 0, none⟩) 0 0).ownBlock := fun i hi => ⟨.inl hi, fun e => by have := hok i hi; simp [Value.ownBlock] at e; omega⟩
  have HB := Lib.hid hb
  clear hC hb hN
  go_enter Try.func27, Try.ntmps27
  go_wp2_with (at_builtin; refine Kd.N_append_rows (w0 := w) k69 w.heap.size rfl _ _ 28 69 (.agg #[.int .i64 0, .bool false, .slice none 0 0]) 40 rfl Try.underlying28 info69 rfl (by decide) (by decide) (.slice (some ⟨w.heap.size, 0, none⟩) 0 0) [] rows A rows.length c (fun i => ok i ∨ w.heap.size ≤ i) ok rfl rfl hNe hF hoke (fun i hi => .inr (by simp at hi; omega)) hBe (by simp) (by simp; omega) ?_; intro v1 w1 hN1 hB1 hg1 hat1; obtain ⟨A3, c3, rfl⟩ := Kd.N_slice hN1)
  go_ret
  have h1 := hB1.size
  have hN2 : Kd.N k69 69 w1 w.heap.size (fun i => ok i ∨ w.heap.size ≤ i) _ rows := hN1
  refine ⟨w1.heap.size, rfl, h1, ⟨_, World.alloc_heap_new w1 _, ?_, fun h => by have := h.2; omega⟩, hB1.alloc h1 _⟩
  exact Kd.N_alloc (Kd.N_lower (Kd.N_bound hN2) (Nat.zero_le _)) _
end Go.Proofs.Ytbmnefdiiibabaa

namespace Go.Proofs.Ytbmnefdiiibabaa
set_option linter.unusedVariables false
set_option linter.unusedSimpArgs false
open Go.RowKit Go.Maps Go.Sort Go.Shelf Go.Proofs.YtbmnefdiiibabaaW.PrintWords Go.Proofs.YtbmnefdiiibabaaW.PrintMore PTruthPlays

/-- where a fact stands, which comes, if it is none yet -/
def RowIs (rows : List S69) (id : Int) (rows' : List S69) (k : Nat) : Prop := (0 ≤ rfind rows id ∧ rows' = rows ∧ rfind rows id = k) ∨ (rfind rows id = -1 ∧ rows' = rins rows id ∧ k = rpos rows id)
theorem RowIs.lt {rows : List S69} {id : Int} {rows' : List S69} {k : Nat} (h : RowIs rows id rows' k) : k < rows'.length := by
  rcases h with ⟨h0, rfl, h⟩ | ⟨_, rfl, rfl⟩
  · rcases rfind_cases rows' id with ⟨e, _⟩ | ⟨j, hj, e, _⟩
    · omega
    · rw [h] at e; have : k = j := by omega
      omega
  · have := rpos_le rows id
    unfold rins
    rw [List.length_append, List.length_cons, List.length_take]; omega
theorem RowIs.len {rows : List S69} {id : Int} {rows' : List S69} {k : Nat} (h : RowIs rows id rows' k) : rows'.length ≤ rows.length + 1 := by
  rcases h with ⟨h0, rfl, h⟩ | ⟨_, rfl, rfl⟩
  · omega
  · have := rpos_le rows id
    unfold rins
    rw [List.length_append, List.length_cons, List.length_take, List.length_drop]; omega
theorem sz4 : (Try.prog.info? 4).map (·.size) = some [Value.bool true].length := by kernel_rfl

set_option maxRecDepth 100000 in
set_option maxHeartbeats 1000000 in
theorem rplain_any (R : Nat) (rows : List S69) (id : Int) (w : World) (ok : Nat → Prop) (hR : RefB w R ok rows) (hok : ∀ i, ok i → i < w.heap.size) (hlen : rows.length ≤ 1000) :
    Calls Try.prog 21 #[.pointer (some ⟨R, 0, none⟩), .int .i64 id] w fun e w' => ∃ (rows' : List S69) (k : Nat) (hk : k < rows'.length), RowIs rows id rows' k ∧ e = .returned (.tuple #[]) ∧ RefB w' R (fun i => ok i ∨ w.heap.size ≤ i) (rows'.set k ⟨rows'[k].f0, true, rows'[k].f2⟩) ∧ Stp (fun i => i = R ∨ ok i) w w' := by
  have hrow := row_any R rows id w ok hR hok hlen
  have hRl := hR.lt
  have HROW := Lib.hid hrow
  clear hrow
  go_enter Try.func21, Try.ntmps21
  go_wp2_with (first
    | (go_at_call 49; refine (HROW.out).mono ?_; rintro e w1 ⟨rows', k, hrk, rfl, hR1, hs1⟩; have HRK := Lib.hid hrk; have hk := RowIs.lt (hrk); have hln := RowIs.len hrk; clear hrk; obtain ⟨v, hb, hN, hn⟩ := hR1; rcases RefB.cases hN with ⟨rfl, hnil⟩ | ⟨g, c, rfl, hlc⟩; exact absurd hk (by rw [hnil]; simp); have hbH := Lib.hid hb; have cR : w1.cell? ⟨R, 0, none⟩ = some (.slice (some ⟨g, 0, none⟩) rows'.length c) := (by rw [cell_blk hb]; rfl); clear hb; obtain ⟨cs, hcs, hFK, hcell, hfz⟩ := Kd.N_elem hN ⟨0, false, []⟩ (k : Int) (by omega) (by omega); have hgd : rows'.getD (k : Int).toNat ⟨0, false, []⟩ = rows'[k] := (by simp [List.getD_eq_getElem?_getD, hk]); rw [hgd] at hFK; clear hgd hfz; have HCE := Lib.hid hcell; clear hcell; obtain ⟨A2, c2, rfl, l2, g2⟩ := k69_openF hFK)
    | (refine gate_ (.store 4 (.tmp 14) (.const (.bool true))) rfl ?_; refine Kd.N_store (w0 := w1) k69 0 rfl rfl 4 _ _ rfl 69 (k : Int) 1 rows' ⟨rows'[k].f0, true, rows'[k].f2⟩ (.bool true) [.bool true] _ (fun i => ok i ∨ w.heap.size ≤ i) (fun i => (ok i ∨ w.heap.size ≤ i) ∧ i ≠ g) rfl (by rw [Int.toNat_natCast]; rfl) rfl rfl sz4 (by intro q hq; simp only [List.mem_cons, List.not_mem_nil, or_false] at hq; subst hq; rfl) hN (by omega) (by omega) hcs HCE.out (by decide) (k69_mkF w1 _ ⟨rows'[k].f0, true, rows'[k].f2⟩ l2 g2) (fun _ h => h) (Below.refl _ _) ?_; intro w2 hN2 hB2 hG2))
  go_end0
  have hne : R ≠ g := by
    rintro rfl
    obtain ⟨cells, hcells⟩ := Kd.N_typed hN R rfl
    rw [hbH.out] at hcells
    injection hcells with hcells
    injection hcells with _ ht
    exact absurd ht (by decide)
  have hb2 : w2.heap[R]? = some (.cells #[.slice (some ⟨g, 0, none⟩) rows'.length c] 30 (0, 0)) := (hG2.block R (blk_lt' hbH.out) (fun e => hne (by injection e))).trans hbH.out
  refine ⟨rows', k, hk, HRK.out, rfl, ⟨_, hb2, by rw [Int.toNat_natCast] at hN2; exact hN2, hn⟩, ?_⟩
  refine (hs1.mono (S' := fun i => i = R ∨ ok i) (fun i _ h => .inl h)).trans (Stp.of_grown hG2) (fun i hi e => ?_)
  have hgok := hN.1 g rfl
  injection e with e
  subst e
  rcases hgok with h | h
  · exact .inr h
  · omega
end Go.Proofs.Ytbmnefdiiibabaa

namespace Go.Proofs.Ytbmnefdiiibabaa
set_option linter.unusedVariables false
set_option linter.unusedSimpArgs false
open Go.RowKit Go.Maps Go.Sort Go.Shelf Go.Proofs.YtbmnefdiiibabaaW.PrintWords Go.Proofs.YtbmnefdiiibabaaW.PrintMore PTruthPlays

set_option maxRecDepth 100000 in
set_option maxHeartbeats 1000000 in
theorem rdrop_any (R : Nat) (rows : List S69) (id : Int) (w : World) (ok : Nat → Prop) (hR : RefB w R ok rows) (hok : ∀ i, ok i → i < w.heap.size) (hlen : rows.length ≤ 1000) :
    Calls Try.prog 25 #[.pointer (some ⟨R, 0, none⟩), .int .i64 id] w fun e w' => ((rfind rows id = -1 ∧ e = .returned (.bool false) ∧ w = w') ∨ ∃ k : Nat, k < rows.length ∧ rfind rows id = k ∧ e = .returned (.bool true) ∧ RefB w' R (fun i => ok i ∨ w.heap.size ≤ i) (rows.take k ++ rows.drop (k + 1)) ∧ Stp (· = R) w w') := by
  have hfi := find_any R rows id w ok hR
  obtain ⟨v, hb, hN, hn⟩ := hR
  have hRl := blk_lt' hb
  rcases rfind_cases rows id with ⟨hf, hg⟩ | ⟨k, hk, hf, hg⟩
  · rw [hf] at hfi
    have HFI := Lib.hid hfi
    have HF := Lib.hid hf
    clear hfi hf hg
    go_enter Try.func25, Try.ntmps25
    go_wp2_with (go_at_call 43; refine (HFI.out).mono ?_; rintro e w' ⟨rfl, rfl⟩)
    go_ret
    exact .inl ⟨HF.out, rfl, rfl⟩
  · rcases RefB.cases hN with ⟨rfl, rfl⟩ | ⟨g, c, rfl, hlc⟩
    · exact absurd hk (by simp)
    rw [hf] at hfi
    have HFI := Lib.hid hfi
    have HF := Lib.hid hf
    have cR : w.cell? ⟨R, 0, none⟩ = some (.slice (some ⟨g, 0, none⟩) rows.length c) := by rw [cell_blk hb]; rfl
    have HB := Lib.hid hb
    clear hfi hf hg hb
    go_enter Try.func25, Try.ntmps25
    go_wp2_with (go_at_call 43; refine (HFI.out).mono ?_; rintro e w' ⟨rfl, rfl⟩)
    by_cases hck : c = k + 1
    · subst hck
      have hz : rows.length - (k + 1) = 0 := by omega
      obtain ⟨wd, hwd⟩ : ∃ wd, wd = w.drew := ⟨_, rfl⟩
      have hBd : Below w.heap.size w w.drew := (Below.refl _ _).drew
      have hNe := N_empty k69 69 w.drew w.heap.size (fun i => ok i ∨ w.heap.size ≤ i) (Nat.le_refl _) (.inr (Nat.le_refl _))
      have hBe : Below w.heap.size w (w.drew.alloc (.cells #[] 69)) := hBd.alloc (Nat.le_refl _) _
      have hFF := Kd.N_F hN
      have hFt : Kd.F k69 (w.drew.alloc (.cells #[] 69)) ok (some ⟨g, 0, none⟩) k (rows.take k) := Kd.F_below (by have := Kd.F_take hFF (m := k) (by omega); rw [List.length_take, Nat.min_eq_left (by omega)] at this; exact this) hBe
      have hFd : Kd.F k69 w ok (some ⟨g, 0, none⟩) 0 (rows.drop (k + 1)) := by have := Kd.F_cut (m := k + 1) (c := k + 1) hFF (by omega) hlc; rw [List.length_drop, if_pos rfl, hz] at this; exact this
      have hke : (rows.take k).length = k := by rw [List.length_take]; omega
      have hoke : ∀ i, ok i → (ok i ∨ w.heap.size ≤ i) ∧ some i ≠ (Value.slice (some ⟨w.heap.size, 0, none⟩) 0 0).ownBlock := fun i hi => ⟨.inl hi, fun e => by have := hok i hi; simp [Value.ownBlock] at e; omega⟩
      clear hwd
      have hkc : (k : Int) ≤ (k : Int) + 1 := by omega
      have hkc1 : k + 1 ≤ k + 1 := by omega
      have hkl1 : k + 1 ≤ rows.length := by omega
      have hz0 : 0 ≤ (k : Int) + 1 := by omega
      have hz1 : (k : Int) + 1 ≤ (rows.length : Int) := by omega
      have hwr : IntKind.i64.wrap ((k : Int) + 1) = (k : Int) + 1 := by simp [IntKind.wrap, IntKind.bits, IntKind.signed]; omega
      go_region_law
        (first
          | (refine Kd.N_append_rows_step (w0 := w) k69 w.heap.size (by simp [Region.wanted]) _ _ 28 69 (.agg #[.int .i64 0, .bool false, .slice none 0 0]) 40 (by rfl) Try.underlying28 info69 rfl (by decide) (by decide) (.slice (some ⟨w.heap.size, 0, none⟩) 0 0) [] (rows.take k) (some ⟨g, 0, none⟩) k (k + 1) (fun i => ok i ∨ w.heap.size ≤ i) ok (by rfl) (by rfl) hNe hFt hoke (fun i hi => .inr (by simp at hi; omega)) hBe (by simp) (by simp; omega) ?_; intro v1 w1 hN1 hB1 hg1 hat1; have hR1 := (hB1.block R hRl).trans HB.out; have cR1 : w1.cell? ⟨R, 0, none⟩ = some (.slice (some ⟨g, 0, none⟩) rows.length (k + 1)) := (by rw [cell_blk hR1]; rfl))
          | (refine Kd.N_append_rows_step (w0 := w) k69 w.heap.size (by simp [Region.wanted]) _ _ 28 69 (.agg #[.int .i64 0, .bool false, .slice none 0 0]) 40 (by rfl) Try.underlying28 info69 rfl (by decide) (by decide) v1 (rows.take k) (rows.drop (k + 1)) (some ⟨g, 0, none⟩) 0 0 (fun i => ok i ∨ w.heap.size ≤ i) ok (by rfl) (by rfl) hN1 (Kd.F_step hFd (fun i hi hlt => hB1.block i hlt)) (fun i hi => ⟨.inl hi, fun e => by have := Kd.N_base hN1 i e.symm; have := hok i hi; omega⟩) (fun i hi => .inr (by have := hB1.size; omega)) hB1 hB1.size (by omega) ?_; intro v3 w3 hN3 hB3 hg3 hat3; have hR3 := (hB3.block R hRl).trans HB.out; have cR3 : w3.cell? ⟨R, 0, none⟩ = some (.slice (some ⟨g, 0, none⟩) rows.length (k + 1)) := (by rw [cell_blk hR3]; rfl); have fR3 : w3.frozen? ⟨R, 0, none⟩ = false := blk_frozen hR3 0; obtain ⟨A3, c3, rfl⟩ := Kd.N_slice hN3))
      all_goals
        go_wp2_with fail
        go_ret
        have hlen3 : (rows.take k ++ rows.drop (k + 1)).length = k := by simp; omega
        refine .inr ⟨k, hk, HF.out, rfl, ⟨_, blk_set hR3 0 _, Kd.N_lower (Kd.N_far (by first | exact hN3 | (rw [hlen3] at hN3; exact hN3)) (p := ⟨R, 0, none⟩) (fun i hi e => by have e : i = R := e; rw [e] at hi; rcases hi with h | h; exact hn h; omega) _) (Nat.zero_le _), by rintro (h | h); exact hn h; omega⟩, (Stp.of_below (S := (· = R)) hB3).setCell (p := ⟨R, 0, none⟩) (.inl rfl) _⟩
    · obtain ⟨wd, hwd⟩ : ∃ wd, wd = w.drew := ⟨_, rfl⟩
      have hBd : Below w.heap.size w w.drew := (Below.refl _ _).drew
      have hNe := N_empty k69 69 w.drew w.heap.size (fun i => ok i ∨ w.heap.size ≤ i) (Nat.le_refl _) (.inr (Nat.le_refl _))
      have hBe : Below w.heap.size w (w.drew.alloc (.cells #[] 69)) := hBd.alloc (Nat.le_refl _) _
      have hFF := Kd.N_F hN
      have hFt : Kd.F k69 (w.drew.alloc (.cells #[] 69)) ok (some ⟨g, 0, none⟩) k (rows.take k) := Kd.F_below (by have := Kd.F_take hFF (m := k) (by omega); rw [List.length_take, Nat.min_eq_left (by omega)] at this; exact this) hBe
      have hFd : Kd.F k69 w ok (some ⟨g, (k + 1) * 3, none⟩) (rows.length - (k + 1)) (rows.drop (k + 1)) := by have := Kd.F_cut (m := k + 1) (c := c) hFF (by omega) hlc; rw [List.length_drop, if_neg hck, Option.map_some, addp, Nat.zero_add] at this; exact this
      have hke : (rows.take k).length = k := by rw [List.length_take]; omega
      have hoke : ∀ i, ok i → (ok i ∨ w.heap.size ≤ i) ∧ some i ≠ (Value.slice (some ⟨w.heap.size, 0, none⟩) 0 0).ownBlock := fun i hi => ⟨.inl hi, fun e => by have := hok i hi; simp [Value.ownBlock] at e; omega⟩
      clear hwd
      have hkc : k ≤ c := by omega
      have hkc1 : k + 1 ≤ c := by omega
      have hkl1 : k + 1 ≤ rows.length := by omega
      have hz0 : 0 ≤ (k : Int) + 1 := by omega
      have hz1 : (k : Int) + 1 ≤ (rows.length : Int) := by omega
      have hwr : IntKind.i64.wrap ((k : Int) + 1) = (k : Int) + 1 := by simp [IntKind.wrap, IntKind.bits, IntKind.signed]; omega
      go_region_law
        (first
          | (refine Kd.N_append_rows_step (w0 := w) k69 w.heap.size (by simp [Region.wanted]) _ _ 28 69 (.agg #[.int .i64 0, .bool false, .slice none 0 0]) 40 (by rfl) Try.underlying28 info69 rfl (by decide) (by decide) (.slice (some ⟨w.heap.size, 0, none⟩) 0 0) [] (rows.take k) (some ⟨g, 0, none⟩) k c (fun i => ok i ∨ w.heap.size ≤ i) ok (by rfl) (by rfl) hNe hFt hoke (fun i hi => .inr (by simp at hi; omega)) hBe (by simp) (by simp; omega) ?_; intro v1 w1 hN1 hB1 hg1 hat1; have hR1 := (hB1.block R hRl).trans HB.out; have cR1 : w1.cell? ⟨R, 0, none⟩ = some (.slice (some ⟨g, 0, none⟩) rows.length c) := (by rw [cell_blk hR1]; rfl))
          | (refine Kd.N_append_rows_step (w0 := w) k69 w.heap.size (by simp [Region.wanted]) _ _ 28 69 (.agg #[.int .i64 0, .bool false, .slice none 0 0]) 40 (by rfl) Try.underlying28 info69 rfl (by decide) (by decide) v1 (rows.take k) (rows.drop (k + 1)) (some ⟨g, (k + 1) * 3, none⟩) (rows.length - (k + 1)) (c - (k + 1)) (fun i => ok i ∨ w.heap.size ≤ i) ok (by rfl) (by rfl) hN1 (Kd.F_step hFd (fun i hi hlt => hB1.block i hlt)) (fun i hi => ⟨.inl hi, fun e => by have := Kd.N_base hN1 i e.symm; have := hok i hi; omega⟩) (fun i hi => .inr (by have := hB1.size; omega)) hB1 hB1.size (by omega) ?_; intro v3 w3 hN3 hB3 hg3 hat3; have hR3 := (hB3.block R hRl).trans HB.out; have cR3 : w3.cell? ⟨R, 0, none⟩ = some (.slice (some ⟨g, 0, none⟩) rows.length c) := (by rw [cell_blk hR3]; rfl); have fR3 : w3.frozen? ⟨R, 0, none⟩ = false := blk_frozen hR3 0; obtain ⟨A3, c3, rfl⟩ := Kd.N_slice hN3))
      all_goals
        go_wp2_with fail
        go_ret
        have hlen3 : (rows.take k ++ rows.drop (k + 1)).length = k + (rows.length - (k + 1)) := by simp; omega
        refine .inr ⟨k, hk, HF.out, rfl, ⟨_, blk_set hR3 0 _, Kd.N_lower (Kd.N_far (by first | exact hN3 | (rw [hlen3] at hN3; exact hN3)) (p := ⟨R, 0, none⟩) (fun i hi e => by have e : i = R := e; rw [e] at hi; rcases hi with h | h; exact hn h; omega) _) (Nat.zero_le _), by rintro (h | h); exact hn h; omega⟩, (Stp.of_below (S := (· = R)) hB3).setCell (p := ⟨R, 0, none⟩) (.inl rfl) _⟩
end Go.Proofs.Ytbmnefdiiibabaa
