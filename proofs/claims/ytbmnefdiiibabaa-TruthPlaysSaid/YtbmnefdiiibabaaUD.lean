import Derived.Test.YtbmnefdiiibabaaUC
namespace Go.Proofs.Ytbmnefdiiibabaa
set_option linter.unusedVariables false
set_option linter.unusedSimpArgs false
open Go.RowKit Go.Maps Go.Sort Go.Shelf Go.Proofs.YtbmnefdiiibabaaW.PrintWords Go.Proofs.YtbmnefdiiibabaaW.PrintMore PTruthPlays

/-- a row of justifications that is read: its cells, and where its tuples lie -/
theorem JF_addr {w : World} {ok : Nat → Prop} {A : Option Addr} {n : Nat} {l : List S33} (h : Kd.F k33 w ok A n l) (hn : 0 < n) :
    ∃ b o, A = some ⟨b, o, none⟩ ∧ b < w.heap.size ∧ ok b ∧ ∀ j (hj : j < l.length), ∃ A1 c1, w.cell? ⟨b, o + j * 2, none⟩ = some (.int .i64 l[j].f0) ∧ w.cell? ⟨b, o + j * 2 + 1, none⟩ = some (.slice A1 l[j].f1.length c1) ∧ l[j].f1.length ≤ c1 ∧ Kd.F ki w ok A1 l[j].f1.length l[j].f1 := by
  obtain ⟨b, o, rfl, hb, _⟩ := J_addr (Kd.F_now h) hn
  have hl := Kd.F_len h
  obtain ⟨ad, c, he, hcl, hFK, hcell, hin⟩ := Kd.F_get h ⟨0, []⟩ 0 (by omega) (by omega)
  injection he with he
  subst he
  refine ⟨b, o, rfl, hb, hin (by decide), fun j hj => ?_⟩
  obtain ⟨ad, c, he, hcl, hFK, hcell, hin⟩ := Kd.F_get h ⟨0, []⟩ (j : Int) (by omega) (by omega)
  injection he with he
  subst he
  have hgd : l.getD (j : Int).toNat ⟨0, []⟩ = l[j] := by simp [List.getD_eq_getElem?_getD, hj]
  rw [hgd] at hFK
  obtain ⟨A1, c1, rfl, l1, g1⟩ := k33_openF hFK
  refine ⟨A1, c1, ?_, ?_, l1, g1⟩
  · have := hcell 0 _ rfl
    rw [addp] at this; exact this
  · have := hcell 1 _ rfl
    rw [addp] at this; exact this

/-- what the document's book may lie in, in a round -/
def okr (ok : Nat → Prop) (n0 : Nat) (v : Value) (i : Nat) : Prop := (ok i ∨ n0 ≤ i) ∧ v.ownBlock ≠ some i
/-- .. a fact's new list -/
def okl (ok : Nat → Prop) (n0 g ni : Nat) (v : Value) (i : Nat) : Prop := (okr ok n0 v i ∧ i ≠ g ∧ i < ni) ∨ ni ≤ i
theorem sz39 (A : Option Addr) (n c : Nat) : (Try.prog.info? 39).map (·.size) = some [Value.slice A n c].length := by rw [List.length_singleton]; kernel_rfl

theorem cell_same {w w' : World} {b : Nat} (h : w'.heap[b]? = w.heap[b]?) (o : Nat) : w'.cell? ⟨b, o, none⟩ = w.cell? ⟨b, o, none⟩ := by simp [World.cell?, h]
theorem okr_N {wj w4 : World} {ok : Nat → Prop} {n0 : Nat} {u v V : Value} {rs : List S69} (hN : Kd.N k69 69 wj 0 (okr ok n0 u) V rs) (hg : wj.grownBy w4 u.ownBlock) (hat : v.ownBlock = u.ownBlock ∨ ∃ b, v.ownBlock = some b ∧ wj.heap.size ≤ b) : Kd.N k69 69 w4 0 (okr ok n0 v) V rs := by
  refine Kd.N_mono (Kd.N_grown (Kd.N_bound hN) hg (fun i hi e => hi.1.2 e.symm)) (fun i hi => ⟨hi.1.1, fun e => ?_⟩)
  rcases hat with h | ⟨b, h, hb⟩
  · exact hi.1.2 (h ▸ e)
  · rw [h] at e; injection e with e; have := hi.2; omega
theorem okl_F {wj w4 : World} {ok : Nat → Prop} {n0 g ni : Nat} {u v : Value} {A : Option Addr} {n : Nat} {l : List S33} (hF : Kd.F k33 wj (okl ok n0 g ni u) A n l) (hg : wj.grownBy w4 u.ownBlock) (hat : v.ownBlock = u.ownBlock ∨ ∃ b, v.ownBlock = some b ∧ wj.heap.size ≤ b)
    (hu : ∀ q, u.ownBlock = some q → n0 < q ∧ q < ni) (hgn : g < ni) (hn : n0 ≤ ni) : Kd.F k33 w4 (fun i => okr ok n0 v i ∧ i ≠ g) A n l := by
  have hne : ∀ i, okl ok n0 g ni u i → u.ownBlock ≠ some i := by
    rintro i (h | h) e
    · exact h.1.2 e
    · have := hu i e; omega
  refine Kd.F_mono (Kd.F_grown (Kd.F_bound hF) hg (fun i hi e => hne i hi.1 e.symm)) (fun i hi => ?_)
  have hnv : v.ownBlock ≠ some i := fun e => by
    rcases hat with h | ⟨b, h, hb⟩
    · exact hne i hi.1 (h ▸ e)
    · rw [h] at e; injection e with e; have := hi.2; omega
  rcases hi.1 with h | h
  · exact ⟨⟨h.1.1, hnv⟩, h.2.1⟩
  · exact ⟨⟨.inr (by omega), hnv⟩, by omega⟩

set_option maxRecDepth 100000 in
set_option maxHeartbeats 4000000 in
theorem rwithdraw_any (R : Nat) (rows : List S69) (w : World) (ok : Nat → Prop) (hR : RefB w R ok rows) (hok : ∀ i, ok i → i < w.heap.size) (hlen : rows.length ≤ 1000) (hll : ∀ r ∈ rows, r.f2.length ≤ 1000) (htl : ∀ r ∈ rows, ∀ y ∈ r.f2, y.f1.length ≤ 1000)
    (j : S33) (Aj : Option Addr) (cj : Nat) (okj : Nat → Prop) (hj : Kd.F ki w okj Aj j.f1.length j.f1) (hcj : j.f1.length ≤ cj) (hjo : ∀ i, okj i → ¬ ok i) (hjR : ¬ okj R) :
    Calls Try.prog 24 #[.pointer (some ⟨R, 0, none⟩), .agg #[.int .i64 j.f0, .slice Aj j.f1.length cj]] w fun e w' => ∃ A c, e = .returned (.slice A (rout rows j).length c) ∧ Kd.N ki 3 w' w.heap.size (fun i => w.heap.size ≤ i) (.slice A (rout rows j).length c) (rout rows j) ∧ RefB w' R (fun i => ok i ∨ w.heap.size ≤ i) (rwd rows j) ∧ Stp (fun i => i = R ∨ ok i) w w' := by
  obtain ⟨v, hb, hN, hn⟩ := hR
  have hRl := blk_lt' hb
  obtain ⟨A, c, rfl, hlc, hC0⟩ := Kd.N_reads hN
  obtain ⟨w1, hw1⟩ : ∃ w1, w1 = w.alloc (.cells #[.int .i64 j.f0, .slice Aj j.f1.length cj] 33) := ⟨_, rfl⟩
  have hbw1 : Below w.heap.size w w1 := by rw [hw1]; exact (Below.refl _ _).alloc (Nat.le_refl _) _
  have hJ1 : w1.heap[w.heap.size]? = some (.cells #[.int .i64 j.f0, .slice Aj j.f1.length cj] 33 (0, 0)) := by rw [hw1]; exact World.alloc_heap_new w _
  have hsz1 := blk_lt' hJ1
  have hsz1u : w1.heap.size ≤ w.heap.size + 1 := by rw [hw1]; simp
  have hN1 : Kd.N k69 69 w1 0 (okr ok w.heap.size (.slice none 0 0)) (.slice A rows.length c) rows := Kd.N_mono (Kd.N_below hN hbw1) (fun i hi => ⟨.inl hi, by simp [Value.ownBlock]⟩)
  have hb1 := (hbw1.block R hRl).trans hb
  have hFj1 : Kd.F ki w1 (fun i => okj i ∧ i < w.heap.size) Aj j.f1.length j.f1 := Kd.F_below (Kd.F_bound hj) hbw1
  have hAg : ∀ g, A = some ⟨g, 0, none⟩ → ok g := fun g e => hN.1 g (by rw [e]; rfl)
  have HW1 := Lib.hid hw1
  have HJ1 := Lib.hid hJ1
  have HB1 := Lib.hid hb1
  have HAG := Lib.hid hAg
  clear hw1 hJ1 hb1 hC0 hb hN hAg
  go_enter Try.func24, Try.ntmps24
  go_wp2_with fail
  rw [← HW1.out]
  go_loopw [5, 6] (fun vo vi W => ∃ k : Nat, k ≤ rows.length ∧ vi = .int .i64 k ∧ Kd.N ki 3 W w.heap.size (fun i => w.heap.size < i) vo (rout (rows.take k) j) ∧ Kd.N k69 69 W 0 (okr ok w.heap.size vo) (.slice A rows.length c) (rcur rows j k) ∧ Stp (fun i => ok i) w1 W) (fun vo vi _ => rows.length - (intOf vi).toNat)
  case atStart => exact ⟨0, Nat.zero_le _, rfl, Kd.N_nil _ _ _ _ _, by simpa [rcur] using hN1, Stp.refl _ _⟩
  case round =>
    obtain ⟨k, hk, rfl, hNo, hNr, hsW⟩ := hrel
    have hszr := hsW.size
    have hRr := hsW.keep HB1.out hn
    have cR : wr.cell? ⟨R, 0, none⟩ = some (.slice A rows.length c) := by rw [cell_blk hRr]; rfl
    have hJr := hsW.keep HJ1.out (fun h => by have := hok _ h; omega)
    have HRr := Lib.hid hRr
    have HJr := Lib.hid hJr
    clear hRr hJr
    by_cases hlt : k < rows.length
    · obtain ⟨wi, rfl⟩ : ∃ wi, wi = wr := ⟨_, rfl⟩
      have hcl : (rcur rows j k).length = rows.length := rcur_len rows j k
      have hAx : ∃ g, A = some ⟨g, 0, none⟩ := by
        rcases RefB.cases hNr with ⟨_, h⟩ | ⟨g, cap, h, _⟩
        · rw [h] at hcl; simp at hcl; omega
        · injection h with h; exact ⟨g, h⟩
      obtain ⟨g, rfl⟩ := hAx
      have hgok : ok g := HAG.out g rfl
      have hgl : g < w.heap.size := hok g hgok
      obtain ⟨cs, hcs, hFK, hcell, hfz⟩ := Kd.N_elem hNr ⟨0, false, []⟩ (k : Int) (by omega) (by omega)
      have hgd : (rcur rows j k).getD (k : Int).toNat ⟨0, false, []⟩ = rows[k] := by
        rw [Int.toNat_natCast, List.getD_eq_getElem?_getD, List.getElem?_eq_getElem (by omega), Option.getD_some]
        exact rcur_at hlt
      rw [hgd] at hFK
      clear hfz hgd
      obtain ⟨A2, c2, rfl, l2, g2⟩ := k69_openF hFK
      have e0 : wi.cell? ⟨g, k * 3, none⟩ = some (.int .i64 rows[k].f0) := hcell 0 _ rfl
      have e2 : wi.cell? ⟨g, k * 3 + 2, none⟩ = some (.slice A2 rows[k].f2.length c2) := hcell 2 _ rfl
      have HCE := Lib.hid hcell
      have hmax2 := C_max (Kd.F_now g2)
      have hl2k : rows[k].f2.length ≤ 1000 := hll _ (List.getElem_mem hlt)
      have ht2k := htl _ (List.getElem_mem hlt)
      have HT2 := Lib.hid ht2k
      have hgi : g < wi.heap.size := by omega
      have hRi : R < wi.heap.size := by omega
      clear hcell hFK hcs hcl ht2k
      go_wp2
      go_loopw [7, 8] (fun vl vm W => ∃ m : Nat, m ≤ rows[k].f2.length ∧ vm = .int .i64 m ∧ Kd.N k33 33 W wi.heap.size (okl ok w.heap.size g wi.heap.size u5) vl ((rows[k].f2.take m).filter (fun y => !jeq y j)) ∧ Below wi.heap.size wi W) (fun vl vm _ => rows[k].f2.length - (intOf vm).toNat)
      case atStart => exact ⟨0, Nat.zero_le _, rfl, Kd.N_nil _ _ _ _ _, Below.refl _ _⟩
      case round =>
        obtain ⟨m, hm, rfl, hNl, hbi⟩ := hrel
        have hszi := hbi.size
        have cRr : wr.cell? ⟨R, 0, none⟩ = some (.slice (some ⟨g, 0, none⟩) rows.length c) := (hbi.cell (p := ⟨R, 0, none⟩) hRi).trans cR
        have e0r : wr.cell? ⟨g, k * 3, none⟩ = some (.int .i64 rows[k].f0) := (hbi.cell (p := ⟨g, k * 3, none⟩) hgi).trans e0
        have e2r : wr.cell? ⟨g, k * 3 + 2, none⟩ = some (.slice A2 rows[k].f2.length c2) := (hbi.cell (p := ⟨g, k * 3 + 2, none⟩) hgi).trans e2
        by_cases hml : m < rows[k].f2.length
        · obtain ⟨b2, o2, rfl, hb2l, hb2k, hcs⟩ := JF_addr (Kd.F_below (Kd.F_bound g2) hbi) (by omega)
          obtain ⟨A1, c1, x0, x1, lx, gx⟩ := hcs m hml
          have hjrr : wr.heap[w.heap.size]? = some (.cells #[.int .i64 j.f0, .slice Aj j.f1.length cj] 33 (0, 0)) := (hbi.block _ (by omega)).trans HJr.out
          have htx : rows[k].f2[m].f1.length ≤ 1000 := HT2.out _ (List.getElem_mem hml)
          have hFjw : Kd.F ki wi (fun i => okj i ∧ i < w.heap.size) Aj j.f1.length j.f1 := Kd.F_step hFj1 (fun i hi hlt => hsW.block i hlt (hjo i hi.1))
          have hFjr : Kd.F ki wr (fun i => okj i ∧ i < w.heap.size) Aj j.f1.length j.f1 := Kd.F_below hFjw hbi
          obtain ⟨x, hx⟩ : ∃ x, x = rows[k].f2[m] := ⟨_, rfl⟩
          rw [← hx] at x0 x1 lx gx htx
          clear hcs hFjw
          obtain ⟨w7, hE⟩ : ∃ w7, w7 = wr.drew := ⟨_, rfl⟩
          have hb7 : Below wr.heap.size wr w7 := by rw [hE]; exact (Below.refl _ _).drew
          have cR7 : w7.cell? ⟨R, 0, none⟩ = some (.slice (some ⟨g, 0, none⟩) rows.length c) := by rw [hE]; exact cRr
          have e27 : w7.cell? ⟨g, k * 3 + 2, none⟩ = some (.slice (some ⟨b2, o2, none⟩) rows[k].f2.length c2) := by rw [hE]; exact e2r
          have x07 : w7.cell? ⟨b2, o2 + m * 2, none⟩ = some (.int .i64 x.f0) := by rw [hE]; exact x0
          have x17 : w7.cell? ⟨b2, o2 + m * 2 + 1, none⟩ = some (.slice A1 x.f1.length c1) := by rw [hE]; exact x1
          have j07 : w7.cell? ⟨w.heap.size, 0, none⟩ = some (.int .i64 j.f0) := by rw [hE]; show wr.cell? _ = _; rw [cell_blk hjrr]; rfl
          have j17 : w7.cell? ⟨w.heap.size, 1, none⟩ = some (.slice Aj j.f1.length cj) := by rw [hE]; show wr.cell? _ = _; rw [cell_blk hjrr]; rfl
          have hsz7 : w7.heap.size = wr.heap.size := by rw [hE]; rfl
          have hsame := same44_any x j A1 Aj c1 cj w7 (Kd.C_below (Kd.F_now gx) hb7) (Kd.C_below (Kd.F_now hFjr) hb7) lx hcj (by omega)
          have hgx7 : Kd.F ki w7 (fun i => (okr ok w.heap.size u5 i ∧ i ≠ g) ∧ i < wi.heap.size) A1 x.f1.length x.f1 := Kd.F_below gx hb7
          have hb7i : Below wi.heap.size wi w7 := hbi.trans (hb7.mono hszi)
          have hNl7 := Kd.N_below hNl hb7
          have hlen7 : ((rows[k].f2.take m).filter (fun y => !jeq y j)).length ≤ 1000 := Nat.le_trans (List.length_filter_le _ _) (by rw [List.length_take]; omega)
          have hub : ∀ i, i < wi.heap.size → some i ≠ u7.ownBlock := fun i hi e => by have := Kd.N_base hNl i e.symm; omega
          have hz7 : wi.heap.size ≤ w7.heap.size := hb7i.size
          clear hsz7
          have Hx := Lib.hid hx
          cases hq : jeq x j with
          | true =>
            rw [hq] at hsame
            have HS := Lib.hid hsame
            have HQ := Lib.hid hq
            clear hsame hx hq
            go_wp2
            refine wp_region_still_tail 12 (by kernel_rfl) (by kernel_rfl) ?_
            change wpStill _ _ wr.drew (fun a' => wpList _ _ _ _ a' wr.drew) _ _
            rw [← hE]
            have HE := Lib.hid hE
            clear hE
            simp only [List.take_succ_cons, List.take_zero, List.drop_succ_cons, List.drop_zero]
            repeat still_step
            refine wpStill_nil ?_
            go_wp2_with (go_at_call 44; refine (HS.out).mono ?_; rintro e w8 ⟨rfl, hb8⟩)
            refine ⟨?rel0, ?measure⟩
            case rel0 =>
              refine ⟨m + 1, by omega, by go_num, ?_, hb7i.trans (hb8.mono hz7)⟩
              rw [take_filter_miss (q := fun y => !jeq y j) hml (by rw [← Hx.out, HQ.out]; rfl)]
              exact Kd.N_below hNl7 hb8
            case measure => simp [intOf]; omega
          | false =>
            rw [hq] at hsame
            have HS := Lib.hid hsame
            have HQ := Lib.hid hq
            clear hsame hx hq
            go_wp2
            refine wp_region_still_tail 12 (by kernel_rfl) (by kernel_rfl) ?_
            change wpStill _ _ wr.drew (fun a' => wpList _ _ _ _ a' wr.drew) _ _
            rw [← hE]
            have HE := Lib.hid hE
            clear hE
            simp only [List.take_succ_cons, List.take_zero, List.drop_succ_cons, List.drop_zero]
            repeat still_step
            refine wpStill_nil ?_
            go_wp2_with (first
              | (go_at_call 44; refine (HS.out).mono ?_; rintro e w8 ⟨rfl, hb8⟩; have cR8 : w8.cell? ⟨R, 0, none⟩ = some (.slice (some ⟨g, 0, none⟩) rows.length c) := ((bcell hb8).1 _ _ (by omega)).trans cR7; have e28 : w8.cell? ⟨g, k * 3 + 2, none⟩ = some (.slice (some ⟨b2, o2, none⟩) rows[k].f2.length c2) := ((bcell hb8).1 _ _ (by omega)).trans e27; have x08 : w8.cell? ⟨b2, o2 + m * 2, none⟩ = some (.int .i64 x.f0) := ((bcell hb8).1 _ _ (by omega)).trans x07; have x18 : w8.cell? ⟨b2, o2 + m * 2 + 1, none⟩ = some (.slice A1 x.f1.length c1) := ((bcell hb8).1 _ _ (by omega)).trans x17; have hz8 := hb8.size)
              | (at_builtin; refine Kd.N_append (w0 := wi) k33 wi.heap.size rfl _ _ 39 33 (.agg #[.int .i64 0, .slice none 0 0]) 32 rfl Try.underlying39 info33 rfl (by decide) (by decide) u7 ((rows[k].f2.take m).filter (fun y => !jeq y j)) x [.int .i64 x.f0, .slice A1 x.f1.length c1] (okl ok w.heap.size g wi.heap.size u5) (fun i => (okr ok w.heap.size u5 i ∧ i ≠ g) ∧ i < wi.heap.size) rfl rfl (k33_mkF _ _ x lx (Kd.F_below hgx7 hb8)) (fun i hi => ⟨.inl ⟨hi.1.1, hi.1.2, hi.2⟩, hub i hi.2⟩) (fun i hi => .inr (by omega)) (Kd.N_below hNl7 hb8) (hb7i.trans (hb8.mono hz7)) (by omega) (by omega) ?_; intro v9 w9 hN9 hB9 hg9 hat9))
            refine ⟨?rel0, ?measure⟩
            case rel0 =>
              refine ⟨m + 1, by omega, by go_num, ?_, hB9⟩
              rw [take_filter_hit (q := fun y => !jeq y j) hml (by rw [← Hx.out, HQ.out]; rfl), ← Hx.out]
              exact hN9
            case measure => simp [intOf]; omega
        · have hme : m = rows[k].f2.length := by omega
          have hNl2 : Kd.N k33 33 wr wi.heap.size (okl ok w.heap.size g wi.heap.size u5) u7 (rows[k].f2.filter (fun y => !jeq y j)) := by rw [hme, List.take_length] at hNl; exact hNl
          obtain ⟨wj, rfl⟩ : ∃ wj, wj = wr := ⟨_, rfl⟩
          obtain ⟨A7, c7, rfl⟩ := Kd.N_slice hNl2
          have hu5 : ∀ q, u5.ownBlock = some q → w.heap.size < q ∧ q < wi.heap.size := fun q hq => ⟨hNo.1 q hq, Kd.N_lt hNo q hq⟩
          have hc7 := (Kd.N_reads' hNl2).2.1
          have hNr7 : Kd.N k69 69 wj 0 (okr ok w.heap.size u5) (.slice (some ⟨g, 0, none⟩) rows.length c) (rcur rows j k) := Kd.N_below hNr hbi
          have hNo7 := Kd.N_below hNo hbi
          have hf7 := Kd.N_F hNl2
          have hln7 : (rows[k].f2.filter (fun y => !jeq y j)).length ≤ rows[k].f2.length := List.length_filter_le _ _
          have hbo : (rout (rows.take k) j).length ≤ rows.length := rout_len rows j k
          clear hNl
          have hRj : wj.heap[R]? = some (.cells #[.slice (some ⟨g, 0, none⟩) rows.length c] 30 (0, 0)) := (hbi.block R hRi).trans HRr.out
          have hgj : wj.heap[g]? = wi.heap[g]? := hbi.block g hgi
          have hcs4 : ([.int .i64 rows[k].f0, .bool rows[k].f1, .slice A2 rows[k].f2.length c2] : List Value).length = k69.sz := rfl
          cases hany : rows[k].f2.any (fun y => jeq y j) with
          | true =>
            have hflt := (filter_lt _ _).2 hany
            have HA := Lib.hid hany
            have HM := Lib.hid hme
            have HRj := Lib.hid hRj
            have HGj := Lib.hid hgj
            clear hany hme hRj hgj
            go_wp2_with (first
              | (at_builtin; refine Kd.N_append (w0 := wj) ki w.heap.size rfl _ _ 31 3 (.int .i64 0) 8 rfl Try.underlying31 info3 rfl (by decide) (by decide) u5 (rout (rows.take k) j) rows[k].f0 [.int .i64 rows[k].f0] (fun i => w.heap.size < i) (fun _ => False) rfl rfl (fun W' _ => (rfl : [Value.int .i64 rows[k].f0] = [Value.int .i64 rows[k].f0])) (fun _ h => h.elim) (fun i hi => by omega) hNo7 (Below.refl _ _) (by omega) (by omega) ?_; intro v4 w4 hN4 hB4 hg4 hat4; have hs4 : Stp (fun i => u5.ownBlock = some i) wj w4 := Stp.of_grown hg4; have hR4 := hs4.keep HRj.out (fun e => by have := hu5 _ e; omega); have cR4 : w4.cell? ⟨R, 0, none⟩ = some (.slice (some ⟨g, 0, none⟩) rows.length c) := (by rw [cell_blk hR4]; rfl); have HR4 := Lib.hid hR4; clear hR4; have hNr4 := okr_N hNr7 hg4 hat4; have hf4 := okl_F hf7 hg4 hat4 hu5 hgi (by omega); have hgg : w4.heap[g]? = wi.heap[g]? := (hs4.block g (by omega) (fun e => by have := hu5 _ e; omega)).trans HGj.out; have hce4 : ∀ (j' : Nat) (u : Value), [Value.int .i64 rows[k].f0, .bool rows[k].f1, .slice A2 rows[k].f2.length c2][j']? = some u → w4.cell? ⟨g, (k : Int).toNat * k69.sz + j', none⟩ = some u := fun j' u hu => (cell_same hgg _).trans (HCE.out j' u hu); have HCE4 := Lib.hid hce4; clear hce4 hgg)
              | (refine gate_ (.store 39 (.tmp 89) (.tmp 87)) rfl ?_; refine Kd.N_store (w0 := w4) k69 0 rfl rfl 39 _ _ rfl 69 (k : Int) 2 (rcur rows j k) (rwd1 j rows[k]) (.slice A7 (rows[k].f2.filter (fun y => !jeq y j)).length c7) [.slice A7 (rows[k].f2.filter (fun y => !jeq y j)).length c7] _ (okr ok w.heap.size v4) (fun i => okr ok w.heap.size v4 i ∧ i ≠ g) rfl (by rw [Int.toNat_natCast]; rfl) rfl rfl (sz39 _ _ _) (by intro q hq; simp only [List.mem_cons, List.not_mem_nil, or_false] at hq; subst hq; rfl) hNr4 (by omega) (by omega) hcs4 HCE4.out (Nat.le_refl 3) (k69_mkF w4 _ (rwd1 j rows[k]) hc7 hf4) (fun _ h => h) (Below.refl _ _) ?_; intro w5 hN5 hB5 hG5))
            refine ⟨?rel0, ?measure⟩
            case rel0 =>
              rw [Int.toNat_natCast, rcur_set hlt] at hN5
              refine ⟨k + 1, by omega, by go_num, ?_, hN5, ?_⟩
              · rw [rout_hit hlt HA.out]
                exact Kd.N_grown hN4 hG5 (fun i hi e => by injection e with e; omega)
              · exact ((hsW.trans (Stp.of_below (S := fun i => ok i) hbi) (fun _ _ h => h)).trans hs4 (fun i hi e => by have := hu5 _ e; omega)).trans (Stp.of_grown hG5) (fun i hi e => by injection e with e; subst e; exact hgok)
            case measure => simp [intOf]; omega
          | false =>
            have hflt : ¬ (rows[k].f2.filter (fun y => !jeq y j)).length < rows[k].f2.length := fun h => by rw [(filter_lt _ _).1 h] at hany; cases hany
            have HA := Lib.hid hany
            have HM := Lib.hid hme
            have hNr4 := okr_N hNr7 (World.grownBy.refl wj _) (.inl rfl)
            have hf4 := okl_F hf7 (World.grownBy.refl wj _) (.inl rfl) hu5 hgi (by omega)
            have hce4 : ∀ (j' : Nat) (u : Value), [Value.int .i64 rows[k].f0, .bool rows[k].f1, .slice A2 rows[k].f2.length c2][j']? = some u → wj.cell? ⟨g, (k : Int).toNat * k69.sz + j', none⟩ = some u := fun j' u hu => (cell_same hgj _).trans (HCE.out j' u hu)
            have HCE4 := Lib.hid hce4
            clear hany hme hRj hgj hce4
            go_wp2_with (refine gate_ (.store 39 (.tmp 89) (.tmp 87)) rfl ?_; refine Kd.N_store (w0 := wj) k69 0 rfl rfl 39 _ _ rfl 69 (k : Int) 2 (rcur rows j k) (rwd1 j rows[k]) (.slice A7 (rows[k].f2.filter (fun y => !jeq y j)).length c7) [.slice A7 (rows[k].f2.filter (fun y => !jeq y j)).length c7] _ (okr ok w.heap.size u5) (fun i => okr ok w.heap.size u5 i ∧ i ≠ g) rfl (by rw [Int.toNat_natCast]; rfl) rfl rfl (sz39 _ _ _) (by intro q hq; simp only [List.mem_cons, List.not_mem_nil, or_false] at hq; subst hq; rfl) hNr4 (by omega) (by omega) hcs4 HCE4.out (Nat.le_refl 3) (k69_mkF wj _ (rwd1 j rows[k]) hc7 hf4) (fun _ h => h) (Below.refl _ _) ?_; intro w5 hN5 hB5 hG5)
            refine ⟨?rel0, ?measure⟩
            case rel0 =>
              rw [Int.toNat_natCast, rcur_set hlt] at hN5
              refine ⟨k + 1, by omega, by go_num, ?_, hN5, ?_⟩
              · rw [rout_miss hlt HA.out]
                exact Kd.N_grown hNo7 hG5 (fun i hi e => by injection e with e; omega)
              · exact (hsW.trans (Stp.of_below (S := fun i => ok i) hbi) (fun _ _ h => h)).trans (Stp.of_grown hG5) (fun i hi e => by injection e with e; subst e; exact hgok)
            case measure => simp [intOf]; omega
    · have hkl : k = rows.length := by omega
      subst hkl
      go_wp2
      go_ret
      obtain ⟨A3, c3, rfl⟩ := Kd.N_slice hNo
      rw [List.take_length] at hNo ⊢
      have hcur : rcur rows j rows.length = rwd rows j := by simp [rcur, rwd]
      rw [hcur] at hNr
      refine ⟨A3, c3, rfl, Kd.N_mono hNo (fun i hi => by omega), ⟨_, HRr.out, Kd.N_mono hNr (fun i hi => hi.1), by rintro (h | h); exact hn h; omega⟩, ?_⟩
      exact (Stp.of_below (S := fun i => i = R ∨ ok i) hbw1).trans hsW (fun i _ h => .inr h)
end Go.Proofs.Ytbmnefdiiibabaa
