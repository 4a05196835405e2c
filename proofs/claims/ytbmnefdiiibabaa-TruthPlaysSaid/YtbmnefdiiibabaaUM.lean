import Derived.Test.YtbmnefdiiibabaaUL
namespace Go.Proofs.Ytbmnefdiiibabaa
set_option linter.unusedVariables false
set_option linter.unusedSimpArgs false
open Go.RowKit Go.Maps Go.Sort Go.Shelf Go.Proofs.YtbmnefdiiibabaaW.PrintWords Go.Proofs.YtbmnefdiiibabaaW.PrintMore PTruthPlays

/-- the books at a round's head -/
def LoopR (w : World) (k : Nat) (v5 v6 : Value) (W : World) : Prop :=
  ∃ B M R b rows P Q, v5 = .pointer (some ⟨B, 0, none⟩) ∧ v6 = .pointer (some ⟨R, 0, none⟩) ∧ Two W k P Q B M R b rows ∧ (∀ i, P i → w.heap.size ≤ i) ∧ (∀ i, Q i → w.heap.size ≤ i) ∧ Below w.heap.size w W

def lostB (b : List Ent) : List Int := lostL b (fun _ => false) (b.map (·.1))
theorem t_facts {w : World} {P : Nat → Prop} {B M n : Nat} {b : List Ent} {rows : List S69} (h : ProgB w P B M b) (hc : Corr b rows) (hb : RBnd n rows) (hn : n ≤ 1000) :
    Calls Try.prog 8 #[.pointer (some ⟨B, 0, none⟩)] w fun e w' => ∃ A c, e = .returned (.slice A (rows.map (·.f0)).length c) ∧ Kd.N ki 3 w' w.heap.size (fun i => w.heap.size ≤ i) (.slice A (rows.map (·.f0)).length c) (rows.map (·.f0)) ∧ Below w.heap.size w w' := by
  refine (p_facts h (hb.book hc) hn).mono ?_
  rintro e w' ⟨A, c, rfl, hN, hB⟩
  have e1 : b.length = (rows.map (·.f0)).length := by rw [List.length_map, hc.rel.len]
  rw [hc.facts, e1] at hN
  exact ⟨A, c, by rw [e1], hN, hB⟩
theorem t_rlost {w : World} {Q : Nat → Prop} {R n : Nat} {b : List Ent} {rows : List S69} (h : RefP w Q R rows) (hc : Corr b rows) (hb : RBnd n rows) (hn : n ≤ 1000) :
    Calls Try.prog 13 #[.pointer (some ⟨R, 0, none⟩)] w fun e w' => ∃ A c, e = .returned (.slice A (lostB b).length c) ∧ Kd.N ki 3 w' w.heap.size (fun i => w.heap.size ≤ i) (.slice A (lostB b).length c) (lostB b) ∧ Below w.heap.size w w' := by
  refine (rlost_any R rows w _ h.ref (by have := hb.len; omega) (fun r hr => by have := hb.lst r hr; omega) (fun r hr y hy => by have := (hb.tup r hr y hy).1; omega)).mono ?_
  rintro e w' ⟨A, c, t, ht, rfl, hN, hB⟩
  have e1 : lostOf rows t = lostB b := (hc.lost ht).symm
  rw [e1] at hN
  exact ⟨A, c, by rw [e1], hN, hB⟩
theorem lostB_len {b : List Ent} {rows : List S69} {n : Nat} (hc : Corr b rows) (hb : RBnd n rows) : (lostB b).length ≤ n := by
  obtain ⟨t, ht, he⟩ := lostL_spec hc _ (fun _ => false) (b.map (·.1)) (Nat.le_refl _) (fun _ _ _ h => by cases h) (by rw [hc.facts]; exact (List.filter_eq_self.2 (fun _ _ => rfl)).symm)
  unfold lostB
  rw [he]
  refine Nat.le_trans (List.length_filter_le _ _) ?_
  rw [List.length_map]; exact hb.len
theorem t_rplain {w : World} {Q : Nat → Prop} {R : Nat} {b : List Ent} {rows : List S69} (h : RefP w Q R rows) (hc : Corr b rows) (id : Int) :
    Calls Try.prog 15 #[.pointer (some ⟨R, 0, none⟩), .int .i64 id] w fun e w' => e = .returned (.bool (bget b id).1) ∧ w = w' := by
  have := risplain_any R rows id w _ h.ref
  rwa [← (hc.get id).1] at this
theorem rows_same (A C : Option Addr) (ca cc : Nat) (l : List Int) (w : World) (hl : ki.C w A l.length l) (hm : ki.C w C l.length l) (hca : l.length ≤ ca) (hcc : l.length ≤ cc) (hll : l.length ≤ 1000) :
    Calls Try.prog 11 #[.slice A l.length ca, .slice C l.length cc] w fun e w' => e = .returned (.int .i64 0) ∧ Below w.heap.size w w' := by
  have := rows_any A C ca cc l l w hl hm hca hcc (by omega)
  rw [lexc_refl] at this
  refine this.mono ?_
  rintro e w' ⟨rfl, hd⟩
  exact ⟨rfl, hd.below⟩
theorem Two.below {W W' : World} {n : Nat} {P Q : Nat → Prop} {B M R : Nat} {b : List Ent} {rows : List S69} (h : Two W n P Q B M R b rows) (hb : Below W.heap.size W W') : Two W' n P Q B M R b rows := ⟨h.prog.below hb, h.ref.below hb, h.apart, h.corr, h.bnd⟩
theorem Two.stp {W W' : World} {n : Nat} {P Q S : Nat → Prop} {B M R : Nat} {b : List Ent} {rows : List S69} (h : Two W n P Q B M R b rows) (hs : Stp S W W') (hP : ∀ i, P i → ¬ S i) (hQ : ∀ i, Q i → ¬ S i) : Two W' n P Q B M R b rows := ⟨h.prog.stp hs hP, h.ref.stp hs hQ, h.apart, h.corr, h.bnd⟩

theorem key_at {ys ys' : List (S33 × Value)} (h : ys'.map keyP = ys.map keyP) {i : Nat} (hi : i < ys.length) : ∃ h' : i < ys'.length, ys'[i].2 = ys[i].2 ∧ ys'[i].1.f1.length = ys[i].1.f1.length := by
  have hl : ys'.length = ys.length := by simpa using congrArg List.length h
  have h' : i < ys'.length := by omega
  have := congrArg (fun l => l[i]?) h
  simp only [List.getElem?_map, List.getElem?_eq_getElem h', List.getElem?_eq_getElem hi, Option.map_some, Option.some.injEq, keyP, Prod.mk.injEq] at this
  exact ⟨h', this.1, this.2⟩
theorem OfR.head {W : World} {base n c : Nat} {A : Option Addr} {ys ys' : List (S33 × Value)} (h : OfR W base (.slice A n c) ys') (hk : ys'.map keyP = ys.map keyP) {i : Nat} (hi : i < ys.length) :
    ∃ G, A = some ⟨G, 0, none⟩ ∧ base ≤ G ∧ W.cell? ⟨G, i * 2 + 1, none⟩ = some ys[i].2 ∧ ∃ l : List Int, l.length = ys[i].1.f1.length ∧ Kd.N ki 3 W base (fun j => base ≤ j ∧ j ≠ G) ys[i].2 l := by
  obtain ⟨h', e1, e2⟩ := key_at hk hi
  rcases h with ⟨_, rfl⟩ | ⟨G, c', he, h1, hc, ⟨cur, hG, hcell⟩, ht⟩
  · exact absurd h' (by simp)
  · injection he with he1 he2 he3
    refine ⟨G, he1, h1, ?_, _, e2, ?_⟩
    · rw [cell_blk hG, (hcell i h').2, e1]
    · rw [← e1]; exact ht _ (List.getElem_mem h')
theorem OfR.stp {W W' : World} {base : Nat} {S : Nat → Prop} {v : Value} {ys : List (S33 × Value)} (h : OfR W base v ys) (hs : Stp S W W') (hd : ∀ i, base ≤ i → ¬ S i) : OfR W' base v ys := by
  rcases h with ⟨rfl, rfl⟩ | ⟨G, c, rfl, h1, hc, ⟨cur, hG, hcell⟩, ht⟩
  · exact .inl ⟨rfl, rfl⟩
  · exact .inr ⟨G, c, rfl, h1, hc, ⟨cur, hs.keep hG (hd G h1), hcell⟩, fun y hy => Kd.N_step (ht y hy) (fun i hi hlt => hs.block i hlt (hd i hi.1))⟩

set_option maxRecDepth 100000 in
set_option maxHeartbeats 4000000 in
theorem truth_any (A : Option Addr) (cl : Nat) (l : List S35) (w : World) (hC : k35.C w A l.length l) (hcl : l.length ≤ cl) (id : Int) (hid : i64r id) (hwf : ∀ o ∈ l, i64r o.f1 ∧ ∀ z ∈ o.f2.f1, i64r z) :
    Calls Try.prog 3 #[.slice A l.length cl, .int .i64 id] w fun e w' => e = .returned (.bool true) ∧ Below w.heap.size w w' := by
  have hgr := great_any A cl l w hC hcl
  have hF := Kd.C_F heap35 hC
  have hmax := C_max hC
  cases hg : grB l with
  | true =>
    rw [hg] at hgr
    have HG := Lib.hid hgr
    clear hgr hg
    go_enter Try.func3, Try.ntmps3
    go_wp2_with (first
      | (go_at_call 4; refine (HG.out).mono ?_; rintro e w1 ⟨rfl, hd⟩)
      | (go_at_call 5; refine (known_any _).mono ?_; rintro e w2 ⟨rfl, hb2⟩))
    go_ret
    exact ⟨rfl, hd.below.trans (hb2.mono hd.below.size)⟩
  | false =>
    have hlen : l.length ≤ 60 := by
      unfold grB at hg
      rw [Bool.or_eq_false_iff] at hg
      have := hg.2
      simp at this; omega
    have htl : ∀ o ∈ l, o.f2.f1.length ≤ 20 := fun o ho => by
      unfold grB at hg
      rw [Bool.or_eq_false_iff] at hg
      have h1 := List.any_eq_false.1 hg.1 o ho
      simp at h1; omega
    rw [hg] at hgr
    have HG := Lib.hid hgr
    have HTL := Lib.hid htl
    have HWF := Lib.hid hwf
    have HC := Lib.hid hC
    clear hgr hg htl hwf hC
    go_enter Try.func3, Try.ntmps3
    go_wp2_with fail
    refine (HG.out).mono ?_
    rintro e w1 ⟨rfl, hd⟩
    have hb1 : Below w.heap.size w w1 := hd.below
    have hz1 := hb1.size
    go_wp2_with fail
    refine (p_new w1).mono ?_
    rintro e w2 ⟨rfl, hp2, hb12⟩
    have hz2 := hb12.size
    obtain ⟨w3, hw3⟩ : ∃ w3, w3 = w2.alloc (.cells #[.slice none 0 0] 30) := ⟨_, rfl⟩
    have hb23 : Below w2.heap.size w2 w3 := by rw [hw3]; exact (Below.refl _ _).alloc (Nat.le_refl _) _
    have hR3 : w3.heap[w2.heap.size]? = some (.cells #[.slice none 0 0] 30 (0, 0)) := by rw [hw3]; exact World.alloc_heap_new w2 _
    have hz3 := blk_lt' hR3
    have hp3 := hp2.below hb23
    have hb3 : Below w.heap.size w w3 := (hb1.trans (hb12.mono hz1)).trans (hb23.mono (by omega))
    have hloop : LoopR w 0 (.pointer (some ⟨w1.heap.size + 1, 0, none⟩)) (.pointer (some ⟨w2.heap.size, 0, none⟩)) w3 := by
      refine ⟨_, _, _, [], [], _, (fun i => i = w2.heap.size), rfl, rfl, ⟨hp3, ⟨⟨_, hR3, Kd.N_nil _ _ _ _ _, fun h => h.2 rfl⟩, rfl, fun i hi => by omega⟩, fun i hi hq => by omega, Corr.nil, RBnd.nil 0⟩, fun i hi => by omega, fun i hi => by omega, hb3⟩
    have HW3 := Lib.hid hw3
    have HLO := Lib.hid hloop
    clear hw3 hloop hp2 hp3 hR3
    go_wp2
    rw [← HW3.out]
    go_loopw [5, 6, 26] (fun v5 v6 vi W => ∃ k : Nat, k ≤ l.length ∧ vi = .int .i64 k ∧ LoopR w k v5 v6 W) (fun v5 v6 vi _ => l.length - (intOf vi).toNat)
    case atStart => exact ⟨0, Nat.zero_le _, rfl, HLO.out⟩
    case round =>
      obtain ⟨k, hk, rfl, B, M, R, b, rows, P, Q, rfl, rfl, h2, hP, hQ, hbW⟩ := hrel
      have hszr := hbW.size
      by_cases hlt : k < l.length
      · obtain ⟨oa, oo, A1, c1, rfl, hol, x0, x1, x2, x3, lx, gx⟩ := O_addr (Kd.F_below hF hbW) hlt
        obtain ⟨hoid, hoz⟩ := HWF.out _ (List.getElem_mem hlt)
        have hot := HTL.out _ (List.getElem_mem hlt)
        obtain ⟨o, ho⟩ : ∃ o, o = l[k] := ⟨_, rfl⟩
        rw [← ho] at x0 x1 x2 x3 lx gx hoid hoz hot
        have hoA : Below wr.heap.size wr (wr.alloc (.cells #[.int .i64 o.f0, .int .i64 o.f1, .int .i64 o.f2.f0, .slice A1 o.f2.f1.length c1] 35)) := (Below.refl _ _).alloc (Nat.le_refl _) _
        have hstep := step_any k (by omega) _ P Q B M R b rows (h2.below hoA) o.f0 o.f1 hoid o.f2 A1 c1 (fun i => i < w.heap.size) (Kd.F_below gx hoA) lx hot hoz (fun i hi h => by have := hP i h; omega) (fun i hi h => by have := hQ i h; omega)
        have HS := Lib.hid hstep
        have HO := Lib.hid ho
        clear hstep ho hoz
        go_wp2_with fail
        refine (HS.out).mono ?_
        rintro e w4 ⟨B4, M4, R4, b4, rows4, P4, Q4, rfl, h4, hs4, hP4, hQ4⟩
        have hsr4 : Stp (fun i => P i ∨ Q i) wr w4 := (Stp.of_below (S := fun i => P i ∨ Q i) hoA).trans hs4 (fun _ _ h => h)
        have hz4 := hsr4.size
        have hP4' : ∀ i, P4 i → w.heap.size ≤ i := fun i hi => (hP4 i hi).elim (fun h => hP i h) (fun h => by simp at h; omega)
        have hQ4' : ∀ i, Q4 i → w.heap.size ≤ i := fun i hi => (hQ4 i hi).elim (fun h => hQ i h) (fun h => by simp at h; omega)
        have hbW4 : Below w.heap.size w w4 := hbW.trans (hsr4.to_below hszr (fun i hi => hi.elim (hP i) (hQ i)))
        have hP4l := h4.prog.lt
        have hQ4l := h4.ref.lt
        have hcor := h4.corr
        have hbnd := h4.bnd
        have hbb := hbnd.book hcor
        clear HS hP4 hQ4 hs4
        obtain ⟨FL, hFL⟩ : ∃ FL, FL = rows4.map (·.f0) := ⟨_, rfl⟩
        obtain ⟨LL, hLL⟩ : ∃ LL, LL = lostB b4 := ⟨_, rfl⟩
        have hlF : FL.length ≤ 1000 := by rw [hFL, List.length_map]; have := hbnd.len; omega
        have hlL2 : LL.length ≤ 1000 := by rw [hLL]; have := lostB_len hcor hbnd; omega
        have tf := t_facts h4.prog hcor hbnd (by omega)
        rw [← hFL] at tf
        have HTF := Lib.hid tf
        have HFL := Lib.hid hFL
        have HLL := Lib.hid hLL
        clear tf hFL hLL
        go_wp2_with fail
        refine (HTF.out).mono ?_
        rintro e w5 ⟨A5, c5, rfl, hN5, hb45⟩
        replace hN5 := Kd.N_bound hN5
        have hz5 := hb45.size
        have h5 := h4.below hb45
        go_wp2_with fail
        have tl : Calls Try.prog 9 #[.pointer (some ⟨B4, 0, none⟩)] w5 fun e w' => ∃ A c, e = .returned (.slice A (lostB b4).length c) ∧ Kd.N ki 3 w' w5.heap.size (fun i => w5.heap.size ≤ i) (.slice A (lostB b4).length c) (lostB b4) ∧ Below w5.heap.size w5 w' := p_lost h5.prog hbb (by omega)
        rw [← HLL.out] at tl
        have HTL2 := Lib.hid tl
        clear tl
        refine (HTL2.out).mono ?_
        rintro e w6 ⟨A6, c6, rfl, hN6, hb56⟩
        have hz6 := hb56.size
        have h6 := h5.below hb56
        have hN56 := Kd.N_below hN5 hb56
        clear h5 hN5
        go_wp2_with fail
        refine (p_of h6.prog hbb (by omega) id hid).mono ?_
        rintro e w7 ⟨v7, ys, rfl, hof, hperm, hpw, hb67⟩
        have hz7 := hb67.size
        have h7 := h6.below hb67
        have hN57 := Kd.N_below hN56 hb67
        have hN67 := Kd.N_below hN6 hb67
        have hys := hcor.of hperm hpw
        clear h6 hN56 hN6 hperm hpw
        have hlL : (rlistOf rows4 id).length ≤ k + 1 ∧ ∀ y ∈ rlistOf rows4 id, y.f1.length ≤ 1000 := by
          have hg := hbb.get id
          have hpm := (hcor.get id).2.1
          exact ⟨by rw [← hpm.length_eq]; exact hg.1, fun y hy => by have := (hg.2 y (hpm.symm.subset hy)).1; omega⟩
        have hyl : ys.length ≤ k + 1 := by have := congrArg List.length hys; rw [List.length_map] at this; omega
        have HOF := Lib.hid hof
        have HYS := Lib.hid hys
        clear hof hys
        go_wp2_with fail
        have tf := rfacts_any R4 rows4 w7 _ h7.ref.ref (by have := hbnd.len; omega)
        rw [← HFL.out] at tf
        have HTF7 := Lib.hid tf
        clear tf
        refine (HTF7.out).mono ?_
        rintro e w8 ⟨A8, c8, rfl, hN8, hb78⟩
        have hz8 := hb78.size
        have h8 := h7.below hb78
        have r58 := Kd.N_reads' (Kd.N_below hN57 hb78)
        have r8 := Kd.N_reads' hN8
        have hN68 := Kd.N_below hN67 hb78
        have HR58 := Lib.hid r58
        have HR8 := Lib.hid r8
        clear r58 r8 h7 hN67
        go_wp2_with fail
        refine (rows_same A5 A8 c5 c8 _ w8 HR58.out.2.2 HR8.out.2.2 HR58.out.2.1 HR8.out.2.1 hlF).mono ?_
        rintro e w9 ⟨rfl, hb89⟩
        have hz9 := hb89.size
        have h9 := h8.below hb89
        have hN69 := Kd.N_below hN68 hb89
        clear h8 hN68 HR58 HR8
        go_wp2_with fail
        have tl := t_rlost h9.ref hcor hbnd (by omega)
        rw [← HLL.out] at tl
        have HTL9 := Lib.hid tl
        clear tl
        refine (HTL9.out).mono ?_
        rintro e w10 ⟨A10, c10, rfl, hN10, hb90⟩
        have hz10 := hb90.size
        have h10 := h9.below hb90
        have r610 := Kd.N_reads' (Kd.N_below hN69 hb90)
        have r10 := Kd.N_reads' hN10
        have HR610 := Lib.hid r610
        have HR10 := Lib.hid r10
        clear r610 r10 h9 hN69
        go_wp2_with fail
        refine (rows_same A6 A10 c6 c10 _ w10 HR610.out.2.2 HR10.out.2.2 HR610.out.2.1 HR10.out.2.1 hlL2).mono ?_
        rintro e w11 ⟨rfl, hb011⟩
        have hz11 := hb011.size
        have h11 := h10.below hb011
        have hb711 : Below w7.heap.size w7 w11 := (((hb78.trans (hb89.mono hz8)).trans (hb90.mono (by omega)))).trans (hb011.mono (by omega))
        have hpl := p_isplain h11.prog id hid
        have hrpl := t_rplain h11.ref hcor id
        clear h10 HR610 HR10
        obtain ⟨q, hq⟩ : ∃ q, q = (bget b4 id).1 := ⟨_, rfl⟩
        rw [← hq] at hpl hrpl
        have HPL := Lib.hid hpl
        have HRPL := Lib.hid hrpl
        clear hq hpl hrpl
        have hof11 := HOF.out.below hb711
        obtain ⟨A7, c7, hv7, hc7, hC7⟩ := ofR_C hof11 (by omega)
        obtain ⟨OL, hOL⟩ : ∃ OL, OL = rlistOf rows4 id := ⟨_, rfl⟩
        have hyo : ys.map (·.1) = OL := by rw [HYS.out, hOL]
        have hylo : ys.length = OL.length := by rw [← hyo, List.length_map]
        rw [hyo] at hv7 hc7 hC7
        rw [← hOL] at hlL
        have hof17 := rof_any R4 rows4 id w11 _ h11.ref.ref
        rw [← hOL] at hof17
        have HYO := Lib.hid hyo
        have HYLO := Lib.hid hylo
        have HROF := Lib.hid hof17
        have HC7 := Lib.hid hC7
        clear hyo hOL hylo hof17 hC7
        subst hv7
        have HOF11 := Lib.hid hof11
        clear hof11
        have hfin : True := trivial
        cases q
        all_goals
          go_wp2_with fail
          refine (HPL.out).mono ?_
          rintro e wx ⟨rfl, rfl⟩
          go_wp2_with fail
          refine (HRPL.out).mono ?_
          rintro e wx ⟨rfl, rfl⟩
          go_wp2_with fail
          refine (HROF.out).mono ?_
          rintro e wx ⟨A17, c17, rfl, hc17, hC17, rfl⟩
          go_wp2_with fail
          refine (sameAll_any A7 A17 c7 c17 _ w11 HC7.out hC17 hc7 hc17 (by omega) hlL.2).mono ?_
          rintro e w12 ⟨rfl, hb112⟩
          go_wp2_with fail
          have hz12 := hb112.size
          have hb712' : Below w7.heap.size w7 w12 := hb711.trans (hb112.mono (by omega))
          have hb412 : Below w4.heap.size w4 w12 := ((hb45.trans (hb56.mono hz5)).trans (hb67.mono (by omega))).trans (hb712'.mono (by omega))
          have h12 := h11.below hb112
          have hN512 := Kd.N_below hN57 hb712'
          have hOF12 := HOF11.out.below hb112
          have HOF12 := Lib.hid hOF12
          clear hOF12
          go_loopw [78] (fun vi W => ∃ (m : Nat) (l5 : List Int), m ≤ FL.length ∧ vi = .int .i64 m ∧ l5.length = FL.length ∧ Kd.N ki 3 W w4.heap.size (fun i => w4.heap.size ≤ i ∧ i < w5.heap.size) (.slice A5 FL.length c5) l5 ∧ Stp (fun i => w4.heap.size ≤ i ∧ i < w5.heap.size) w12 W) (fun vi _ => FL.length - (intOf vi).toNat)
          case atStart => exact ⟨0, FL, Nat.zero_le _, rfl, rfl, hN512, Stp.refl _ _⟩
          case round =>
            obtain ⟨m, l5, hm, rfl, hl5, hNl, hsl⟩ := hrel
            have HLL5 := Lib.hid hl5
            clear hl5
            by_cases hml : m < FL.length
            · have hll := HLL5.out
              obtain ⟨g, cap, he, hg1, hg2, _⟩ := Kd.N_form hNl (by omega)
              have hAg : A5 = some ⟨g, 0, none⟩ := by injection he
              subst hAg
              have hgo := hNl.1 g rfl
              obtain ⟨cs, hcs, hFK, hcell, hfz⟩ := Kd.N_elem hNl 0 (m : Int) (by omega) (by omega)
              have hcv : cs = [.int .i64 (l5.getD (m : Int).toNat 0)] := Kd.FK_now hFK
              subst hcv
              have HCE := Lib.hid hcell
              clear hcell hfz hll he hFK
              go_wp2_with (refine gate_ (.store 3 (.tmp 83) (.const (.int .i64 (-1)))) rfl ?_; refine Kd.N_store (w0 := wr) ki w4.heap.size rfl rfl 3 _ _ rfl 3 (m : Int) 0 l5 (-1) (.int .i64 (-1)) [.int .i64 (-1)] _ (fun i => w4.heap.size ≤ i ∧ i < w5.heap.size) (fun _ => False) rfl (by show m = (m : Int).toNat * 1 + 0; omega) rfl rfl sz3 (by intro q hq; simp only [List.mem_cons, List.not_mem_nil, or_false] at hq; subst hq; rfl) hNl (by omega) (by omega) hcs HCE.out (Nat.le_refl 1) (fun W' _ => (rfl : [Value.int .i64 (-1)] = [Value.int .i64 (-1)])) (fun _ h => h.elim) (Below.refl _ _) ?_; intro w15 hN15 hB15 hG15)
              refine ⟨?rel0, ?measure⟩
              case rel0 =>
                exact ⟨m + 1, _, by omega, by go_num, by rw [List.length_set]; exact HLL5.out, hN15, hsl.trans (Stp.of_grown hG15) (fun i hi e => by injection e with e; subst e; exact hgo)⟩
              case measure => simp [intOf]; omega
            · go_wp2
              obtain ⟨wa, rfl⟩ : ∃ wa, wa = wr := ⟨_, rfl⟩
              have hza := hsl.size
              have hOFa := HOF12.out.stp hsl (fun i hi h => by omega)
              have HOFa := Lib.hid hOFa
              clear hOFa
              have hsa : Stp (fun i => w4.heap.size ≤ i) w12 wa := hsl.mono (fun i _ h => h.1)
              go_loopw [87] (fun vi W => ∃ (i : Nat) (ys' : List (S33 × Value)), i ≤ OL.length ∧ vi = .int .i64 i ∧ OfR W w6.heap.size (.slice A7 OL.length c7) ys' ∧ ys'.map keyP = ys.map keyP ∧ Stp (fun i => w4.heap.size ≤ i) w12 W) (fun vi _ => OL.length - (intOf vi).toNat)
              case atStart => exact ⟨0, ys, Nat.zero_le _, rfl, HOFa.out, rfl, hsa⟩
              case round =>
                obtain ⟨i, ys1, hi, rfl, hof1, hkey1, hs1⟩ := hrel
                have HOF1 := Lib.hid hof1
                have HKEY1 := Lib.hid hkey1
                clear hof1 hkey1
                by_cases hil : i < OL.length
                · have hiy : i < ys.length := by rw [HYLO.out]; exact hil
                  obtain ⟨G, rfl, hG6, hcG, lv, hlv, hNv⟩ := HOF1.out.head HKEY1.out hiy
                  obtain ⟨V, hV⟩ : ∃ V, V = ys[i].2 := ⟨_, rfl⟩
                  obtain ⟨T, hT⟩ : ∃ T, T = ys[i].1.f1.length := ⟨_, rfl⟩
                  rw [← hV] at hcG hNv
                  rw [← hT] at hlv
                  obtain ⟨A9, c9, hv9⟩ := Kd.N_slice hNv
                  rw [hlv] at hv9
                  subst hv9
                  have hmaxT : T ≤ 9223372036854775807 := by have := C_max (Kd.N_reads' hNv).2.2; omega
                  have HV := Lib.hid hV
                  have HT := Lib.hid hT
                  clear hV hT hlv hNv
                  obtain ⟨wb, rfl⟩ : ∃ wb, wb = wr := ⟨_, rfl⟩
                  go_wp2
                  go_loopw [96] (fun vi W => ∃ (m : Nat) (ys2 : List (S33 × Value)), m ≤ T ∧ vi = .int .i64 m ∧ OfR W w6.heap.size (.slice (some ⟨G, 0, none⟩) OL.length c7) ys2 ∧ ys2.map keyP = ys.map keyP ∧ Stp (fun i => w4.heap.size ≤ i) w12 W) (fun vi _ => T - (intOf vi).toNat)
                  case atStart => exact ⟨0, ys1, Nat.zero_le _, rfl, HOF1.out, HKEY1.out, hs1⟩
                  case round =>
                    obtain ⟨m2, ys2, hm2, rfl, hof2, hkey2, hs2⟩ := hrel
                    have HOF2 := Lib.hid hof2
                    have HKEY2 := Lib.hid hkey2
                    clear hof2 hkey2
                    obtain ⟨G2, hGG, hG62, hcG2, lv2, hlv2, hNv2⟩ := HOF2.out.head HKEY2.out hiy
                    injection hGG with hGG
                    injection hGG with hGG
                    subst hGG
                    rw [← HV.out] at hcG2 hNv2
                    rw [← HT.out] at hlv2
                    by_cases hmT : m2 < T
                    · obtain ⟨g, cap, he, hg1, hg2, _⟩ := Kd.N_form hNv2 (by omega)
                      have hAg : A9 = some ⟨g, 0, none⟩ := by injection he
                      subst hAg
                      have hgo := hNv2.1 g rfl
                      obtain ⟨cs, hcs, hFK, hcell, hfz⟩ := Kd.N_elem hNv2 0 (m2 : Int) (by omega) (by omega)
                      have hcv : cs = [.int .i64 (lv2.getD (m2 : Int).toNat 0)] := Kd.FK_now hFK
                      subst hcv
                      have hcm : wr.cell? ⟨g, m2, none⟩ = some (.int .i64 (lv2.getD (m2 : Int).toNat 0)) := by
                        have := hcell 0 _ rfl
                        rw [show (m2 : Int).toNat * ki.sz + 0 = m2 from by show (m2 : Int).toNat * 1 + 0 = m2; omega] at this
                        exact this
                      have hfm : wr.frozen? ⟨g, m2, none⟩ = false := by
                        have := hfz 0
                        rw [show (m2 : Int).toNat * ki.sz + 0 = m2 from by show (m2 : Int).toNat * 1 + 0 = m2; omega] at this
                        exact this
                      have HLV2 := Lib.hid hlv2
                      have HGO := Lib.hid hgo
                      clear hcell hfz he hFK hlv2 hNv2 hgo hcs
                      go_wp2
                      refine ⟨?rel0, ?measure⟩
                      case rel0 =>
                        have hyl2 : ys2.length = OL.length := by have := congrArg List.length HKEY2.out; rw [List.length_map, List.length_map, HYLO.out] at this; exact this
                        have hp := HOF2.out
                        rw [← hyl2] at hp
                        obtain ⟨ys3, k3, hp3⟩ := hp.poke (g := g) (o := m2) HGO.out.2 (-1)
                        rw [hyl2] at hp3
                        exact ⟨m2 + 1, ys3, by omega, by go_num, hp3, k3.trans HKEY2.out, hs2.setCell (p := ⟨g, m2, none⟩) (.inl (by have := HGO.out.1; show w4.heap.size ≤ g; omega)) _⟩
                      case measure => simp [intOf]; omega
                    · clear hlv2 hNv2
                      go_wp2
                      refine ⟨?rel0, ?measure⟩
                      case rel0 => exact ⟨i + 1, ys2, by omega, by go_num, HOF2.out, HKEY2.out, hs2⟩
                      case measure => simp [intOf]; omega
                · go_wp2
                  refine ⟨?rel0, ?measure⟩
                  case rel0 =>
                    have h13 := h12.stp hs1 (fun i hi h => by have := hP4l i hi; omega) (fun i hi h => by have := hQ4l i hi; omega)
                    exact ⟨k + 1, by omega, by go_num, B4, M4, R4, b4, rows4, P4, Q4, rfl, rfl, h13, hP4', hQ4', (hbW4.trans (hb412.mono (by omega))).trans (hs1.to_below (by omega) (fun i hi => by omega))⟩
                  case measure => simp [intOf]; omega
      · go_wp2_with (go_at_call 5; refine (known_any _).mono ?_; rintro e w5 ⟨rfl, hb5⟩)
        go_ret
        exact ⟨rfl, hbW.trans (hb5.mono hszr)⟩
end Go.Proofs.Ytbmnefdiiibabaa
