import Derived.Test.YtbmnefdiiibabaaUD
import Derived.Test.YtbmnefdiiibabaaUE
namespace Go.Proofs.Ytbmnefdiiibabaa
set_option linter.unusedVariables false
set_option linter.unusedSimpArgs false
open Go.RowKit Go.Maps Go.Sort Go.Shelf Go.Proofs.YtbmnefdiiibabaaW.PrintWords Go.Proofs.YtbmnefdiiibabaaW.PrintMore PTruthPlays

theorem jless_iff (x j : S33) : jless x j = true ↔ x.f0 < j.f0 ∨ x.f0 = j.f0 ∧ lexc x.f1 j.f1 < 0 := by unfold jless; rw [decide_eq_true_iff, jcmp_lt]
theorem RowIs.mem {rows : List S69} {id : Int} {rows' : List S69} {k : Nat} (h : RowIs rows id rows' k) : ∀ r ∈ rows', r ∈ rows ∨ r = rnew id := by
  rcases h with ⟨_, rfl, _⟩ | ⟨_, rfl, _⟩
  · exact fun r hr => .inl hr
  · intro r hr
    unfold rins at hr
    rcases List.mem_append.1 hr with hr | hr
    · exact .inl (List.mem_of_mem_take hr)
    · rcases List.mem_cons.1 hr with rfl | hr
      · exact .inr rfl
      · exact .inl (List.mem_of_mem_drop hr)
theorem jat_next {l : List S33} {j : S33} {m : Nat} (hm : m < l.length) : jat l j (m + 1) = if jless l[m] j = true then m + 1 else jat l j m := by
  show (if (l[m]?.map (fun x => jless x j)).getD false then m + 1 else jat l j m) = _
  rw [List.getElem?_eq_getElem hm]; rfl
/-- what the document's Justify comes to -/
def JustR (rows : List S69) (id : Int) (j : S33) (R : Nat) (ok : Nat → Prop) (w : World) (e : Ending) (w' : World) : Prop :=
  ∃ (rows' : List S69) (k : Nat) (hk : k < rows'.length), RowIs rows id rows' k ∧
      ((rows'[k].f2.any (fun x => jeq x j) = true ∧ e = .returned (.bool false) ∧ RefB w' R (fun i => ok i ∨ w.heap.size ≤ i) rows') ∨
       (rows'[k].f2.any (fun x => jeq x j) = false ∧ e = .returned (.bool true) ∧ RefB w' R (fun i => ok i ∨ w.heap.size ≤ i) (rows'.set k ⟨rows'[k].f0, rows'[k].f1, jins rows'[k].f2 j⟩))) ∧ Stp (fun i => i = R ∨ ok i) w w'
/-- what the fact's new list may lie in -/
def okn (ok : Nat → Prop) (n1 n2 g : Nat) (i : Nat) : Prop := ((ok i ∨ n1 ≤ i) ∧ i ≠ g ∧ i < n2) ∨ n2 ≤ i
def Cut13 (ok : Nat → Prop) (n1 n2 g : Nat) (w2 : World) (l : List S33) (v : Value) (W : World) : Prop := Kd.N k33 33 W n2 (okn ok n1 n2 g) v l ∧ Below n2 w2 W

/-- a row of integers leads nowhere -/
theorem N_ki_any {w : World} {base : Nat} {ok ok' : Nat → Prop} {v : Value} {l : List Int} (h : Kd.N ki 3 w base ok v l) (hb : ∀ i, v.ownBlock = some i → ok' i) : Kd.N ki 3 w base ok' v l := by
  obtain ⟨h0, rows, hlr, hR, hf⟩ := h
  exact ⟨hb, rows, hlr, hR, fun j x c hx hc W' _ => (Kd.FK_now (hf j x c hx hc) : ki.K w x c)⟩
theorem own13 {v : Value} {W : World} {n : Nat} (h : v.ownBlock = (Value.slice (some ⟨n, 0, none⟩) 0 0).ownBlock ∨ ∃ b, v.ownBlock = some b ∧ W.heap.size ≤ b) (hn : n ≤ W.heap.size) : ∀ i, v.ownBlock = some i → n ≤ i := by
  intro i hi
  rcases h with h | ⟨b, h, hb⟩
  · rw [h] at hi; simp [Value.ownBlock] at hi; omega
  · rw [h] at hi; injection hi with hi; omega

theorem just_end {w2 w15 : World} {ok : Nat → Prop} {n0 n1 R g k c c2 n15 c15 : Nat} {A2 A15 : Option Addr} {rows' : List S69} {l' : List S33} (hk : k < rows'.length)
    (hN : Kd.N k69 69 w2 0 (fun i => ok i ∨ n1 ≤ i) (.slice (some ⟨g, 0, none⟩) rows'.length c) rows')
    (hce : ∀ (j' : Nat) (u : Value), [Value.int .i64 rows'[k].f0, .bool rows'[k].f1, .slice A2 rows'[k].f2.length c2][j']? = some u → w2.cell? ⟨g, (k : Int).toNat * k69.sz + j', none⟩ = some u)
    (hB : Below w2.heap.size w2 w15) (hb2 : w2.heap[R]? = some (.cells #[.slice (some ⟨g, 0, none⟩) rows'.length c] 30 (0, 0))) (hn : ¬ (ok R ∨ n1 ≤ R)) (hRg : R ≠ g) (h01 : n0 ≤ n1) (h12 : n1 ≤ w2.heap.size) (hgl : g < w2.heap.size) (hRn : R < n0)
    (hN15 : Kd.N k33 33 w15 w2.heap.size (okn ok n1 w2.heap.size g) (.slice A15 n15 c15) l') :
    RefB (w15.setCell ⟨g, k * 3 + 2, none⟩ (.slice A15 n15 c15)) R (fun i => ok i ∨ n0 ≤ i) (rows'.set k ⟨rows'[k].f0, rows'[k].f1, l'⟩) ∧ Stp (fun i => i = g) w2 (w15.setCell ⟨g, k * 3 + 2, none⟩ (.slice A15 n15 c15)) := by
  obtain ⟨hn15, hc15, _⟩ := Kd.N_reads' hN15
  subst hn15
  have hF := Kd.N_F hN15
  have hN2 : Kd.N k69 69 w15 0 (fun i => ok i ∨ n0 ≤ i) (.slice (some ⟨g, 0, none⟩) rows'.length c) rows' := Kd.N_mono (Kd.N_below hN hB) (fun i hi => hi.imp (fun h => h) (fun h => by omega))
  have hs := (Kd.N_seg (okp := okn ok n1 w2.heap.size g) (x' := (⟨rows'[k].f0, rows'[k].f1, l'⟩ : S69)) hN2 (k : Int) (by omega) (by omega) (c := [.int .i64 rows'[k].f0, .bool rows'[k].f1, .slice A2 rows'[k].f2.length c2]) (seg := [.slice A15 l'.length c15]) (j := 2) rfl
    (fun j' u hu => (hB.cell (p := ⟨g, (k : Int).toNat * k69.sz + j', none⟩) hgl).trans (hce j' u hu)) (Nat.le_refl 3) (k69_mkF w15 _ ⟨rows'[k].f0, rows'[k].f1, l'⟩ hc15 hF)
    (fun i hi => by
      rcases hi with ⟨h1, h2, _⟩ | h
      · exact ⟨h1.imp (fun h => h) (fun h => by omega), h2⟩
      · exact ⟨.inr (by omega), by omega⟩))
  obtain ⟨h1, h2⟩ := hs
  have hsc : w15.setCells g ((k : Int).toNat * k69.sz + 2) [.slice A15 l'.length c15] = w15.setCell ⟨g, k * 3 + 2, none⟩ (.slice A15 l'.length c15) := rfl
  rw [hsc, Int.toNat_natCast] at h1
  have hRl := blk_lt' hb2
  refine ⟨⟨_, blk_far ((hB.block R hRl).trans hb2) hRg _, h1, by rintro (h | h); exact hn (.inl h); omega⟩, ?_⟩
  exact (Stp.of_below (S := fun i => i = g) hB).setCell (p := ⟨g, k * 3 + 2, none⟩) (.inl rfl) _

set_option maxRecDepth 100000 in
set_option maxHeartbeats 4000000 in
theorem rjustify_any (R : Nat) (rows : List S69) (id : Int) (w : World) (ok : Nat → Prop) (hR : RefB w R ok rows) (hok : ∀ i, ok i → i < w.heap.size) (hlen : rows.length ≤ 1000) (hll : ∀ r ∈ rows, r.f2.length ≤ 1000) (htl : ∀ r ∈ rows, ∀ y ∈ r.f2, y.f1.length ≤ 1000)
    (j : S33) (Aj : Option Addr) (cj : Nat) (okj : Nat → Prop) (hj : Kd.F ki w okj Aj j.f1.length j.f1) (hcj : j.f1.length ≤ cj) (hjl : j.f1.length ≤ 1000) (hjR : ¬ okj R) :
    Calls Try.prog 22 #[.pointer (some ⟨R, 0, none⟩), .int .i64 id, .agg #[.int .i64 j.f0, .slice Aj j.f1.length cj]] w (JustR rows id j R ok w) := by
  have hRl := hR.lt
  obtain ⟨w1, hw1⟩ : ∃ w1, w1 = w.alloc (.cells #[.int .i64 j.f0, .slice Aj j.f1.length cj] 33) := ⟨_, rfl⟩
  have hbw1 : Below w.heap.size w w1 := by rw [hw1]; exact (Below.refl _ _).alloc (Nat.le_refl _) _
  have hJ1 : w1.heap[w.heap.size]? = some (.cells #[.int .i64 j.f0, .slice Aj j.f1.length cj] 33 (0, 0)) := by rw [hw1]; exact World.alloc_heap_new w _
  have hsz1 := blk_lt' hJ1
  have hR1 : RefB w1 R ok rows := hR.step (hbw1.block R hRl) (fun k _ hlt => hbw1.block k hlt)
  have hrow := row_any R rows id w1 ok hR1 (fun i hi => by have := hok i hi; omega) hlen
  have hFj1 : Kd.F ki w1 (fun i => okj i ∧ i < w.heap.size) Aj j.f1.length j.f1 := Kd.F_below (Kd.F_bound hj) hbw1
  have HW1 := Lib.hid hw1
  have HJ1 := Lib.hid hJ1
  have HROW := Lib.hid hrow
  have HLL := Lib.hid hll
  have HTL := Lib.hid htl
  clear hw1 hJ1 hrow hll htl
  go_enter Try.func22, Try.ntmps22
  go_wp2_with fail
  rw [← HW1.out]
  refine (HROW.out).mono ?_
  rintro e w2 ⟨rows', k, hrk, rfl, hR2, hs2⟩
  have HRK := Lib.hid hrk
  have hk := RowIs.lt hrk
  have hln := RowIs.len hrk
  have hsm : rows'[k].f2.length ≤ 1000 ∧ ∀ y ∈ rows'[k].f2, y.f1.length ≤ 1000 := by
    rcases RowIs.mem hrk _ (List.getElem_mem hk) with h | h
    · exact ⟨HLL.out _ h, HTL.out _ h⟩
    · rw [h]; exact ⟨by simp [rnew], by simp [rnew]⟩
  clear hrk HLL HTL
  obtain ⟨v, hb2, hN2, hn2⟩ := hR2
  rcases RefB.cases hN2 with ⟨rfl, hnil⟩ | ⟨g, c, rfl, hlc⟩
  · exact absurd hk (by rw [hnil]; simp)
  have hgok := hN2.1 g rfl
  have hsz2 := hs2.size
  have hR2l := blk_lt' hb2
  have hg2l := Kd.N_lt hN2 g rfl
  have hRg : R ≠ g := fun e => hn2 (e ▸ hgok)
  have hJ2 := hs2.keep HJ1.out (fun e : w.heap.size = R => by omega)
  obtain ⟨cs, hcs, hFK, hcell, hfz⟩ := Kd.N_elem hN2 ⟨0, false, []⟩ (k : Int) (by omega) (by omega)
  have hgd : rows'.getD (k : Int).toNat ⟨0, false, []⟩ = rows'[k] := (by simp [List.getD_eq_getElem?_getD, hk])
  rw [hgd] at hFK
  obtain ⟨A2, c2, rfl, l2, g2⟩ := k69_openF hFK
  obtain ⟨hsl, hst⟩ := hsm
  have HN2 := Lib.hid hN2
  obtain ⟨L, hL⟩ : ∃ L, L = rows'[k].f2 := ⟨_, rfl⟩
  have HCE := Lib.hid hcell
  have e2 : w2.cell? ⟨g, k * 3 + 2, none⟩ = some (.slice A2 L.length c2) := by rw [hL]; exact hcell 2 _ rfl
  have f2 : w2.frozen? ⟨g, k * 3 + 2, none⟩ = false := hfz 2
  rw [← hL] at l2 g2 hsl hst
  have HL := Lib.hid hL
  have HST := Lib.hid hst
  have cR : w2.cell? ⟨R, 0, none⟩ = some (.slice (some ⟨g, 0, none⟩) rows'.length c) := by rw [cell_blk hb2]; rfl
  have j0 : w2.cell? ⟨w.heap.size, 0, none⟩ = some (.int .i64 j.f0) := by rw [cell_blk hJ2]; rfl
  have j1 : w2.cell? ⟨w.heap.size, 1, none⟩ = some (.slice Aj j.f1.length cj) := by rw [cell_blk hJ2]; rfl
  have hFj2 : Kd.F ki w2 (fun i => okj i ∧ i < w.heap.size) Aj j.f1.length j.f1 := Kd.F_step hFj1 (fun i hi hlt => hs2.block i hlt (fun e => hjR (e ▸ hi.1)))
  have HB2 := Lib.hid hb2
  have HJ2 := Lib.hid hJ2
  have hmax2 := C_max (Kd.F_now g2)
  have hmaxj := C_max (Kd.F_now hFj2)
  clear hL hcs hFK hgd hcell hfz hN2 hb2 hJ2 hst hFj1
  go_wp2
  go_loopw [9, 10] (fun va vi W => ∃ m : Nat, m ≤ L.length ∧ vi = .int .i64 m ∧ va = .int .i64 (jat L j m : Nat) ∧ (∀ i (hi : i < m) (h : i < L.length), jeq L[i] j = false) ∧ Below w2.heap.size w2 W) (fun va vi _ => L.length - (intOf vi).toNat)
  case atStart => exact ⟨0, Nat.zero_le _, rfl, rfl, fun i hi => by omega, Below.refl _ _⟩
  case round =>
    obtain ⟨m, hm, rfl, rfl, hno, hbw⟩ := hrel
    have hszr := hbw.size
    have HNO := Lib.hid hno
    clear hno
    have cRr : wr.cell? ⟨R, 0, none⟩ = some (.slice (some ⟨g, 0, none⟩) rows'.length c) := (hbw.cell (p := ⟨R, 0, none⟩) hR2l).trans cR
    have e2r : wr.cell? ⟨g, k * 3 + 2, none⟩ = some (.slice A2 L.length c2) := (hbw.cell (p := ⟨g, k * 3 + 2, none⟩) hg2l).trans e2
    have f2r : wr.frozen? ⟨g, k * 3 + 2, none⟩ = false := (hbw.frozen (p := ⟨g, k * 3 + 2, none⟩) hg2l).trans f2
    have j0r : wr.cell? ⟨w.heap.size, 0, none⟩ = some (.int .i64 j.f0) := (hbw.cell (p := ⟨w.heap.size, 0, none⟩) (by simp; omega)).trans j0
    have j1r : wr.cell? ⟨w.heap.size, 1, none⟩ = some (.slice Aj j.f1.length cj) := (hbw.cell (p := ⟨w.heap.size, 1, none⟩) (by simp; omega)).trans j1
    have g2r := Kd.F_below (Kd.F_bound g2) hbw
    have hFjr := Kd.F_below (Kd.F_bound hFj2) hbw
    by_cases hml : m < L.length
    · obtain ⟨b2, o2, rfl, hb2l, hb2k, hcs⟩ := JF_addr g2r (by omega)
      obtain ⟨A1, c1, x0, x1, lx, gx⟩ := hcs m hml
      have htx : L[m].f1.length ≤ 1000 := HST.out _ (List.getElem_mem hml)
      have hjn := jat_next (l := L) (j := j) hml
      obtain ⟨x, hx⟩ : ∃ x, x = L[m] := ⟨_, rfl⟩
      rw [← hx] at x0 x1 lx gx htx hjn
      have hnoq : ∀ q, jeq x j = q → Hid (jeq L[m] j = q) := fun q hq => Lib.hid (by rw [← hx]; exact hq)
      clear hcs hx
      obtain ⟨xr, xt⟩ := x
      simp only at x0 x1 lx gx htx
      have hWA : Below wr.heap.size wr (wr.alloc (.cells #[.int .i64 xr, .slice A1 xt.length c1] 33)) := (Below.refl _ _).alloc (Nat.le_refl _) _
      have hsame := same44_any ⟨xr, xt⟩ j A1 Aj c1 cj (wr.alloc (.cells #[.int .i64 xr, .slice A1 xt.length c1] 33)) (Kd.C_below (Kd.F_now gx) hWA) (Kd.C_below (Kd.F_now hFjr) hWA) lx hcj (by simp only; omega)
      have hXN := World.alloc_heap_new wr (.cells #[.int .i64 xr, .slice A1 xt.length c1] 33 (0, 0))
      have HXN := Lib.hid hXN
      clear hXN
      have j0a : (wr.alloc (.cells #[.int .i64 xr, .slice A1 xt.length c1] 33)).cell? ⟨w.heap.size, 0, none⟩ = some (.int .i64 j.f0) := (hWA.cell (p := ⟨w.heap.size, 0, none⟩) (by simp; omega)).trans j0r
      have j1a : (wr.alloc (.cells #[.int .i64 xr, .slice A1 xt.length c1] 33)).cell? ⟨w.heap.size, 1, none⟩ = some (.slice Aj j.f1.length cj) := (hWA.cell (p := ⟨w.heap.size, 1, none⟩) (by simp; omega)).trans j1r
      have HJN := Lib.hid hjn
      have hle := jat_le L j m
      clear hjn
      cases hq : jeq ⟨xr, xt⟩ j with
      | true =>
        rw [hq] at hsame
        have HS := Lib.hid hsame
        have HQ := hnoq _ hq
        clear hsame hnoq hq
        go_wp2_with (go_at_call 44; refine (HS.out).mono ?_; rintro e w4 ⟨rfl, hb4⟩)
        go_ret
        have hb24 : Below w2.heap.size w2 w4 := hbw.trans ((hWA.trans (hb4.mono (by simp))).mono hszr)
        have hany : L.any (fun x => jeq x j) = true := List.any_eq_true.2 ⟨_, List.getElem_mem hml, HQ.out⟩
        unfold JustR
        refine ⟨rows', k, hk, HRK.out, .inl ⟨by rw [← HL.out]; exact hany, rfl, ⟨_, (hb24.block R hR2l).trans HB2.out, Kd.N_mono (Kd.N_below HN2.out hb24) (fun i hi => hi.imp (fun h => h) (fun h => by omega)), by rintro (h | h); exact hn2 (.inl h); omega⟩⟩, ?_⟩
        exact (((Stp.of_below (S := fun i => i = R ∨ ok i) hbw1).trans hs2 (fun i _ h => .inl h)).trans (Stp.of_below (S := fun _ => False) hb24) (fun _ _ h => h.elim))
      | false =>
        rw [hq] at hsame
        have HS := Lib.hid hsame
        have HQ := hnoq _ hq
        clear hsame hnoq hq
        have hb5 : ∀ w4, Below (wr.alloc (.cells #[.int .i64 xr, .slice A1 xt.length c1] 33)).heap.size (wr.alloc (.cells #[.int .i64 xr, .slice A1 xt.length c1] 33)) w4 → Hid (Below w2.heap.size w2 w4 ∧ w4.cell? ⟨wr.heap.size, 0, none⟩ = some (.int .i64 xr) ∧ w4.cell? ⟨wr.heap.size, 1, none⟩ = some (.slice A1 xt.length c1) ∧ w4.cell? ⟨w.heap.size, 0, none⟩ = some (.int .i64 j.f0) ∧ w4.cell? ⟨w.heap.size, 1, none⟩ = some (.slice Aj j.f1.length cj) ∧ ki.C w4 A1 xt.length xt ∧ ki.C w4 Aj j.f1.length j.f1) := by
          intro w4 hb4
          have hbr4 : Below wr.heap.size wr w4 := hWA.trans (hb4.mono (by simp))
          have h1 := (hb4.block wr.heap.size (by simp)).trans HXN.out
          refine Lib.hid ⟨hbw.trans (hbr4.mono hszr), by rw [cell_blk h1]; rfl, by rw [cell_blk h1]; rfl, (hbr4.cell (p := ⟨w.heap.size, 0, none⟩) (by simp; omega)).trans j0r, (hbr4.cell (p := ⟨w.heap.size, 1, none⟩) (by simp; omega)).trans j1r, Kd.C_below (Kd.F_now gx) hbr4, Kd.C_below (Kd.F_now hFjr) hbr4⟩
        rcases Int.lt_trichotomy xr j.f0 with hc | hc | hc
        · have hjl1 : jless ⟨xr, xt⟩ j = true := (jless_iff _ _).2 (.inl hc)
          have HJL := Lib.hid hjl1
          clear hjl1
          go_wp2_with (go_at_call 44; refine (HS.out).mono ?_; rintro e w4 ⟨rfl, hb4⟩; have H5 := hb5 w4 hb4; clear hb5; have t0 := H5.out.2.1; have t1 := H5.out.2.2.1; have j04 := H5.out.2.2.2.1; have j14 := H5.out.2.2.2.2.1)
          refine ⟨?rel0, ?measure⟩
          case rel0 =>
            refine ⟨m + 1, by omega, by go_num, ?_, ?_, H5.out.1⟩
            · rw [HJN.out, HJL.out]; rfl
            · intro i hi h
              by_cases e : i = m
              · subst e; exact HQ.out
              · exact HNO.out i (by omega) h
          case measure => simp [intOf]; omega
        · have hxr : xr = j.f0 := hc
          subst hxr
          obtain ⟨X, hX⟩ : ∃ X, X = lexc xt j.f1 := ⟨_, rfl⟩
          have hJL : jless ⟨j.f0, xt⟩ j = decide (X < 0) := by
            rw [Bool.eq_iff_iff, jless_iff, decide_eq_true_iff, hX]
            simp
          have HJL := Lib.hid hJL
          have HX := Lib.hid hX
          clear hJL hX hc
          by_cases hX0 : X < 0
          · go_wp2_with (first
              | (go_at_call 44; refine (HS.out).mono ?_; rintro e w4 ⟨rfl, hb4⟩; have H5 := hb5 w4 hb4; clear hb5; have t0 := H5.out.2.1; have t1 := H5.out.2.2.1; have j04 := H5.out.2.2.2.1; have j14 := H5.out.2.2.2.2.1)
              | (go_at_call 11; refine (rows_any A1 Aj c1 cj xt j.f1 _ H5.out.2.2.2.2.2.1 H5.out.2.2.2.2.2.2 lx hcj (by omega)).mono ?_; rintro e w5 ⟨rfl, hd5⟩; rw [← HX.out]))
            refine ⟨?rel0, ?measure⟩
            case rel0 =>
              have hb45 : Below w4.heap.size w4 w5 := hd5.below
              refine ⟨m + 1, by omega, by go_num, ?_, ?_, H5.out.1.trans (hb45.mono H5.out.1.size)⟩
              · rw [HJN.out, HJL.out, if_pos (decide_eq_true hX0)]; rfl
              · intro i hi h
                by_cases e : i = m
                · subst e; exact HQ.out
                · exact HNO.out i (by omega) h
            case measure => simp [intOf]; omega
          · go_wp2_with (first
              | (go_at_call 44; refine (HS.out).mono ?_; rintro e w4 ⟨rfl, hb4⟩; have H5 := hb5 w4 hb4; clear hb5; have t0 := H5.out.2.1; have t1 := H5.out.2.2.1; have j04 := H5.out.2.2.2.1; have j14 := H5.out.2.2.2.2.1)
              | (go_at_call 11; refine (rows_any A1 Aj c1 cj xt j.f1 _ H5.out.2.2.2.2.2.1 H5.out.2.2.2.2.2.2 lx hcj (by omega)).mono ?_; rintro e w5 ⟨rfl, hd5⟩; rw [← HX.out]))
            refine ⟨?rel0, ?measure⟩
            case rel0 =>
              have hb45 : Below w4.heap.size w4 w5 := hd5.below
              refine ⟨m + 1, by omega, by go_num, ?_, ?_, H5.out.1.trans (hb45.mono H5.out.1.size)⟩
              · rw [HJN.out, HJL.out, if_neg (by simpa using hX0)]
              · intro i hi h
                by_cases e : i = m
                · subst e; exact HQ.out
                · exact HNO.out i (by omega) h
            case measure => simp [intOf]; omega
        · have hjl1 : jless ⟨xr, xt⟩ j = false := by
            rw [← Bool.not_eq_true, jless_iff]
            rintro (h | ⟨h, _⟩)
            · simp only at h; omega
            · simp only at h; omega
          have HJL := Lib.hid hjl1
          clear hjl1
          go_wp2_with (go_at_call 44; refine (HS.out).mono ?_; rintro e w4 ⟨rfl, hb4⟩; have H5 := hb5 w4 hb4; clear hb5; have t0 := H5.out.2.1; have t1 := H5.out.2.2.1; have j04 := H5.out.2.2.2.1; have j14 := H5.out.2.2.2.2.1)
          all_goals
            refine ⟨?rel0, ?measure⟩
            case rel0 =>
              refine ⟨m + 1, by omega, by go_num, ?_, ?_, H5.out.1⟩
              · rw [HJN.out, HJL.out, if_neg (by decide)]
              · intro i hi h
                by_cases e : i = m
                · subst e; exact HQ.out
                · exact HNO.out i (by omega) h
            case measure => simp [intOf]; omega
    · have hme : m = L.length := by omega
      have hany : L.any (fun x => jeq x j) = false := by
        rw [← Bool.not_eq_true, List.any_eq_true]
        rintro ⟨x, hx, hq⟩
        obtain ⟨i, hi, rfl⟩ := List.getElem_of_mem hx
        rw [HNO.out i (by omega) hi] at hq; cases hq
      have hple := jat_le L j m
      obtain ⟨p, hp⟩ : ∃ p, p = jat L j m := ⟨_, rfl⟩
      rw [← hp] at hple ⊢
      have hJI : jins L j = L.take p ++ j :: L.drop p := by unfold jins; rw [← hme, ← hp]
      have HJI := Lib.hid hJI
      have HANY := Lib.hid hany
      have hpl : p ≤ L.length := by omega
      have hpc : p ≤ c2 := by omega
      clear hp hme hany HNO hJI
      have hFt : Kd.F k33 wr (fun i => ((ok i ∨ w1.heap.size ≤ i) ∧ i ≠ g) ∧ i < w2.heap.size) A2 p (L.take p) := by
        have := Kd.F_take g2r (m := p) hpl
        rwa [List.length_take, Nat.min_eq_left hpl] at this
      have hln12 : (L.take p).length ≤ 1000 := by rw [List.length_take]; omega
      go_wp2_with (at_builtin; refine Kd.N_append_rows (w0 := w2) k33 w2.heap.size rfl _ _ 39 33 (.agg #[.int .i64 0, .slice none 0 0]) 32 rfl Try.underlying39 info33 rfl (by decide) (by decide) (.slice none 0 0) [] (L.take p) A2 p c2 (okn ok w1.heap.size w2.heap.size g) (fun i => ((ok i ∨ w1.heap.size ≤ i) ∧ i ≠ g) ∧ i < w2.heap.size) rfl rfl (Kd.N_nil _ _ _ _ _) hFt (fun i hi => ⟨.inl ⟨hi.1.1, hi.1.2, hi.2⟩, by simp [Value.ownBlock]⟩) (fun i hi => .inr (by omega)) hbw hszr (by simp; omega) ?_; intro v12 w12 hN12 hB12 hg12 hat12; rw [List.nil_append] at hN12; obtain ⟨A12, c12, rfl⟩ := Kd.N_slice hN12)
      have hlp : (L.take p).length = p := by rw [List.length_take]; omega
      have HLP := Lib.hid hlp
      have hN12' : Kd.N k33 33 w12 w2.heap.size (okn ok w1.heap.size w2.heap.size g) (.slice A12 p c12) (L.take p) := by rw [hlp] at hN12; exact hN12
      have hz12 := hB12.size
      have hJ12 : w12.heap[w.heap.size]? = some (.cells #[.int .i64 j.f0, .slice Aj j.f1.length cj] 33 (0, 0)) := (hB12.block _ (by omega)).trans HJ2.out
      have j012 : w12.cell? ⟨w.heap.size, 0, none⟩ = some (.int .i64 j.f0) := by rw [cell_blk hJ12]; rfl
      have j112 : w12.cell? ⟨w.heap.size, 1, none⟩ = some (.slice Aj j.f1.length cj) := by rw [cell_blk hJ12]; rfl
      have hFj12 : Kd.F ki w12 (fun i => okj i ∧ i < w.heap.size) Aj j.f1.length j.f1 := Kd.F_below hFj2 hB12
      have hlt12 := Kd.N_lt hN12'
      clear hN12 hlp hJ12
      go_cut [8] (fun v8 w6 => Cut13 ok w1.heap.size w2.heap.size g w2 (L.take p ++ [j]) v8 w6)
      case first =>
        have hNe := N_empty ki 3 w12.drew w2.heap.size (fun i => (okj i ∧ i < w.heap.size) ∨ w12.heap.size ≤ i) hz12 (.inr (Nat.le_refl _))
        have hBe : Below w2.heap.size w2 (w12.drew.alloc (.cells #[] 3)) := (hB12.trans ((Below.refl _ _).drew)).alloc hz12 _
        have hFe : Kd.F ki (w12.drew.alloc (.cells #[] 3)) (fun i => okj i ∧ i < w.heap.size) Aj j.f1.length j.f1 := Kd.F_alloc (Kd.F_drew hFj12) _
        have hze : w12.heap.size + 1 = (w12.drew.alloc (.cells #[] 3)).heap.size := by simp
        have HZE := Lib.hid hze
        clear hze
        go_region_held3 (fun w' => w'.cell? ⟨w.heap.size, 0, none⟩ = some (.int .i64 j.f0) ∧ w'.cell? ⟨w.heap.size, 1, none⟩ = some (.slice Aj j.f1.length cj)) (first | go_keep | (exact ⟨(hB13.cell (p := ⟨w.heap.size, 0, none⟩) (by simp; omega)).trans j0, (hB13.cell (p := ⟨w.heap.size, 1, none⟩) (by simp; omega)).trans j1⟩) | (exact ⟨(hB14.cell (p := ⟨w.heap.size, 0, none⟩) (by simp; omega)).trans j0, (hB14.cell (p := ⟨w.heap.size, 1, none⟩) (by simp; omega)).trans j1⟩))
          (first
            | (refine Kd.N_append_rows_step (w0 := w2) ki w2.heap.size (by simp [Region.wanted]) _ _ 31 3 (.int .i64 0) 8 (by rfl) Try.underlying31 info3 rfl (by decide) (by decide) (.slice (some ⟨w12.heap.size, 0, none⟩) 0 0) [] j.f1 Aj j.f1.length cj (fun i => (okj i ∧ i < w.heap.size) ∨ w12.heap.size ≤ i) (fun i => okj i ∧ i < w.heap.size) (by rfl) (by rfl) hNe hFe (fun i hi => ⟨.inl hi, fun e => by simp [Value.ownBlock] at e; omega⟩) (fun i hi => .inr (by simp at hi; omega)) hBe (by simp; omega) (by simp; omega) ?_; intro v13 w13 hN13 hB13 hg13 hat13; rw [List.nil_append] at hN13; have hS13 : Stp (fun _ => False) w12 w13 := (((Stp.refl _ w12).drew).alloc _).trans (Stp.of_grown hg13) (fun i hi e => by simp [Value.ownBlock] at e; omega); have hz13 := hS13.size; have hb13 : ∀ i, v13.ownBlock = some i → w12.heap.size ≤ i ∧ i < w13.heap.size := (fun i hi => ⟨own13 hat13 (by simp) i hi, Kd.N_lt hN13 i hi⟩); have hM13 := N_ki_any hN13 hb13; clear hN13; obtain ⟨A13, c13, rfl⟩ := Kd.N_slice hM13; have hF13 := Kd.N_F hM13; have hc13 := (Kd.N_reads' hM13).2.1)
            | (refine Kd.N_append_step (w0 := w2) k33 w2.heap.size (by simp [Region.wanted]) _ _ 39 33 (.agg #[.int .i64 0, .slice none 0 0]) 32 (by rfl) Try.underlying39 info33 rfl (by decide) (by decide) (.slice A12 p c12) (L.take p) j [.int .i64 j.f0, .slice A13 j.f1.length c13] (okn ok w1.heap.size w2.heap.size g) (fun i => w12.heap.size ≤ i ∧ i < w13.heap.size) (by rfl) (by rfl) (k33_mkF w13 _ j hc13 hF13) (fun i hi => ⟨.inr (by omega), fun e => by have := hlt12 i e.symm; omega⟩) (fun i hi => .inr (by omega)) (Kd.N_step hN12' (fun i _ hlt => hS13.block i hlt (fun h => h))) hB13 hB13.size (by omega) ?_; intro v14 w14 hN14 hB14 hg14 hat14; obtain ⟨A14, c14, rfl⟩ := Kd.N_slice hN14))
        all_goals
          go_wp2_with fail
          go_meet
          have hl14 : (L.take p ++ [j]).length = p + 1 := by rw [List.length_append, HLP.out]; rfl
          rw [hl14] at hN14
          exact ⟨hN14, hB14⟩
      case rest =>
        obtain ⟨hN6, hB6⟩ := hcut
        obtain ⟨w6, rfl⟩ : ∃ w6, w6 = wc := ⟨_, rfl⟩
        obtain ⟨A6, c6, rfl⟩ := Kd.N_slice hN6
        have hz6 := hB6.size
        have hl6 : (L.take p ++ [j]).length = p + 1 := by rw [List.length_append, HLP.out]; rfl
        have cR6 : w6.cell? ⟨R, 0, none⟩ = some (.slice (some ⟨g, 0, none⟩) rows'.length c) := (hB6.cell (p := ⟨R, 0, none⟩) hR2l).trans cR
        have e26 : w6.cell? ⟨g, k * 3 + 2, none⟩ = some (.slice A2 L.length c2) := (hB6.cell (p := ⟨g, k * 3 + 2, none⟩) hg2l).trans e2
        have f26 : w6.frozen? ⟨g, k * 3 + 2, none⟩ = false := (hB6.frozen (p := ⟨g, k * 3 + 2, none⟩) hg2l).trans f2
        have hN6d : Kd.N k33 33 w6.drew w2.heap.size (okn ok w1.heap.size w2.heap.size g) (.slice A6 (p + 1) c6) (L.take p ++ [j]) := by rw [hl6] at hN6; exact Kd.N_drew hN6
        have hB6d : Below w2.heap.size w2 w6.drew := hB6.drew
        have g26 : Kd.F k33 w6.drew (fun i => ((ok i ∨ w1.heap.size ≤ i) ∧ i ≠ g) ∧ i < w2.heap.size) A2 L.length L := Kd.F_drew (Kd.F_below (Kd.F_bound g2) hB6)
        have hl6' : (L.take p ++ [j]).length ≤ 1001 := by omega
        have hub : ∀ i, i < w2.heap.size → some i ≠ (Value.slice A6 (p + 1) c6).ownBlock := fun i hi e => by have := Kd.N_base hN6d i e.symm; omega
        have hk0 : (0 : Int) ≤ (k : Int) := by omega
        have hk1 : (k : Int) < (rows'.length : Int) := by omega
        have hp0 : (0 : Int) ≤ (p : Int) := by omega
        have hp1 : (p : Int) ≤ (L.length : Int) := by omega
        have hp2 : (p : Int) ≤ (c2 : Int) := by omega
        have hl6'' : (L.take p ++ [j]).length = p + 1 := hl6
        have HL6 := Lib.hid hl6''
        clear hN6 hl6 hl6''
        by_cases hck : c2 = p
        · have hz : L.length - p = 0 := by omega
          have hFd : Kd.F k33 w6.drew (fun i => ((ok i ∨ w1.heap.size ≤ i) ∧ i ≠ g) ∧ i < w2.heap.size) A2 0 (L.drop p) := by
            have := Kd.F_cut (m := p) (c := c2) g26 hpl l2
            rw [List.length_drop, if_pos hck, hz] at this; exact this
          have HCK := Lib.hid hck
          obtain rfl : c2 = p := hck
          have HZ := Lib.hid hz
          clear hz
          go_wp2_with fail
          go_region_law
            (go_loud (refine Kd.N_append_rows_step (w0 := w2) k33 w2.heap.size (by simp [Region.wanted]) _ _ 39 33 (.agg #[.int .i64 0, .slice none 0 0]) 32 (by rfl) Try.underlying39 info33 rfl (by decide) (by decide) (.slice A6 (c2 + 1) c6) (L.take c2 ++ [j]) (L.drop c2) A2 0 0 (okn ok w1.heap.size w2.heap.size g) (fun i => ((ok i ∨ w1.heap.size ≤ i) ∧ i ≠ g) ∧ i < w2.heap.size) (by rfl) (by rfl) hN6d hFd (fun i hi => ⟨.inl ⟨hi.1.1, hi.1.2, hi.2⟩, hub i hi.2⟩) (fun i hi => .inr (by have : w6.drew.heap.size = w6.heap.size := rfl; omega)) hB6d (by have : w6.drew.heap.size = w6.heap.size := rfl; omega) (by omega) ?_; intro v15 w15 hN15 hB15 hg15 hat15; obtain ⟨A15, c15, rfl⟩ := Kd.N_slice hN15; have cR15 := (hB15.cell (p := ⟨R, 0, none⟩) hR2l).trans cR; have e215 := (hB15.cell (p := ⟨g, k * 3 + 2, none⟩) hg2l).trans e2; have f215 := (hB15.frozen (p := ⟨g, k * 3 + 2, none⟩) hg2l).trans f2))
          all_goals
            go_wp2_with fail
            go_ret
            have hl15 : (L.take c2 ++ [j] ++ L.drop c2).length = c2 + 1 := by rw [List.length_append, HL6.out, List.length_drop]; omega
            rw [hl15] at hN15
            have hend := just_end hk HN2.out HCE.out hB15 HB2.out hn2 hRg (n0 := w.heap.size) (by omega) hsz2 hg2l (by omega) hN15
            unfold JustR
            refine ⟨rows', k, hk, HRK.out, .inr ⟨by rw [← HL.out]; exact HANY.out, rfl, ?_⟩, ?_⟩
            · have hji : jins rows'[k].f2 j = L.take c2 ++ [j] ++ L.drop c2 := by rw [← HL.out, HJI.out, List.append_assoc]; rfl
              rw [hji]
              exact hend.1
            · exact ((Stp.of_below (S := fun i => i = R ∨ ok i) hbw1).trans hs2 (fun i _ h => .inl h)).trans hend.2 (fun i hi e => by subst e; rcases hgok with h | h; exact .inr h; omega)
        · have hFd : Kd.F k33 w6.drew (fun i => ((ok i ∨ w1.heap.size ≤ i) ∧ i ≠ g) ∧ i < w2.heap.size) (A2.map (·.add (p * 2))) (L.length - p) (L.drop p) := by
            have := Kd.F_cut (c := c2) g26 hpl l2
            rw [List.length_drop, if_neg hck] at this; exact this
          go_wp2_with fail
          go_region_law
            (go_loud (refine Kd.N_append_rows_step (w0 := w2) k33 w2.heap.size (by simp [Region.wanted]) _ _ 39 33 (.agg #[.int .i64 0, .slice none 0 0]) 32 (by rfl) Try.underlying39 info33 rfl (by decide) (by decide) (.slice A6 (p + 1) c6) (L.take p ++ [j]) (L.drop p) (A2.map (·.add (p * 2))) (L.length - p) (c2 - p) (okn ok w1.heap.size w2.heap.size g) (fun i => ((ok i ∨ w1.heap.size ≤ i) ∧ i ≠ g) ∧ i < w2.heap.size) (by rfl) (by rfl) hN6d hFd (fun i hi => ⟨.inl ⟨hi.1.1, hi.1.2, hi.2⟩, hub i hi.2⟩) (fun i hi => .inr (by have : w6.drew.heap.size = w6.heap.size := rfl; omega)) hB6d (by have : w6.drew.heap.size = w6.heap.size := rfl; omega) (by omega) ?_; intro v15 w15 hN15 hB15 hg15 hat15; obtain ⟨A15, c15, rfl⟩ := Kd.N_slice hN15; have cR15 := (hB15.cell (p := ⟨R, 0, none⟩) hR2l).trans cR; have e215 := (hB15.cell (p := ⟨g, k * 3 + 2, none⟩) hg2l).trans e2; have f215 := (hB15.frozen (p := ⟨g, k * 3 + 2, none⟩) hg2l).trans f2))
          all_goals
            go_wp2_with fail
            go_ret
            have hl15 : (L.take p ++ [j] ++ L.drop p).length = p + (L.length - p + 1) := by rw [List.length_append, HL6.out, List.length_drop]; omega
            rw [hl15] at hN15
            have hend := just_end hk HN2.out HCE.out hB15 HB2.out hn2 hRg (n0 := w.heap.size) (by omega) hsz2 hg2l (by omega) hN15
            unfold JustR
            refine ⟨rows', k, hk, HRK.out, .inr ⟨by rw [← HL.out]; exact HANY.out, rfl, ?_⟩, ?_⟩
            · have hji : jins rows'[k].f2 j = L.take p ++ [j] ++ L.drop p := by rw [← HL.out, HJI.out, List.append_assoc]; rfl
              rw [hji]
              exact hend.1
            · exact ((Stp.of_below (S := fun i => i = R ∨ ok i) hbw1).trans hs2 (fun i _ h => .inl h)).trans hend.2 (fun i hi e => by subst e; rcases hgok with h | h; exact .inr h; omega)
end Go.Proofs.Ytbmnefdiiibabaa
