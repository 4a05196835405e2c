import Derived.Test.YtbmnefdiiibabaaTM
namespace Go.Proofs.Ytbmnefdiiibabaa
set_option linter.unusedVariables false
set_option linter.unusedSimpArgs false
open Go.RowKit Go.Maps Go.Sort Go.Shelf Go.Proofs.YtbmnefdiiibabaaW.PrintWords Go.Proofs.YtbmnefdiiibabaaW.PrintMore PTruthPlays

theorem predS51 (S : Nat → Prop) (j : S33) (Aj : Option Addr) (cj J : Nat) (l : List S33) (w : World) (hJ : w.heap[J]? = some (.cells #[.int .i64 j.f0, .slice Aj j.f1.length cj] 33 (0, 0))) (okj : Nat → Prop) (hj : Kd.F ki w okj Aj j.f1.length j.f1) (hS : ¬ S J) (hSo : ∀ k, okj k → ¬ S k) : PredS S 51 #[.pointer (some ⟨J, 0, none⟩)] (fun x => jeq x j) l w :=
  fun W hW x _ A c hx => with1_any x j A Aj c cj J W (hW.keep hJ hS) (Kd.F_now (Kd.F_step hj (fun k hk hlt => hW.block k hlt (hSo k hk)))) hx

/-- what the book's lists lead to, in a round -/
theorem bout_len (b : List Ent) (j : S33) (k : Nat) : (bout (b.take k) j).length ≤ b.length := by
  unfold bout
  rw [List.length_map]
  refine Nat.le_trans (List.length_filter_le _ _) ?_
  rw [List.length_take]; omega

def okw (ok : Nat → Prop) (n0 n1 : Nat) (v : Value) (i : Nat) : Prop := ((ok i ∧ i < n0) ∨ n1 ≤ i) ∧ v.ownBlock ≠ some i

theorem okw_map {wr wN : World} {ok : Nat → Prop} {n0 n1 M : Nat} {u v : Value} {cur : List Ent} (hM : M < n1) (hs : Stp (fun i => u.ownBlock = some i) wr wN) (hu : ∀ g, u.ownBlock = some g → n1 ≤ g ∧ g < wr.heap.size)
    (hMW : MapB wr (okw ok n0 n1 u) M cur) (hv : v.ownBlock = u.ownBlock ∨ ∃ g, v.ownBlock = some g ∧ wr.heap.size ≤ g) : MapB wN (okw ok n0 n1 v) M cur := by
  have hMl := hMW.lt
  refine ((hMW.mono (ok' := fun i => okw ok n0 n1 u i ∧ i < wr.heap.size) (fun i h1 h2 => ⟨h1, h2⟩)).step (hs.block M hMl (fun e => by have := hu _ e; omega)) (fun i hi hlt => hs.block i hlt (fun e => hi.1.2 e))).mono (fun i hi _ => ⟨hi.1.1, fun e => ?_⟩)
  rcases hv with hv | ⟨g, hg, hle⟩
  · rw [hv] at e; exact hi.1.2 e
  · rw [hg] at e; injection e with e; have := hi.2; omega
theorem okw_F {w3 wN : World} {ok : Nat → Prop} {n0 n1 nr : Nat} {u v : Value} {A : Option Addr} {l : List S33} (hs : Stp (fun i => u.ownBlock = some i) w3 wN) (hu : ∀ g, u.ownBlock = some g → n1 ≤ g ∧ g < nr) (h1r : n1 ≤ nr)
    (hF : Kd.F k33 w3 (fun i => okw ok n0 n1 u i ∨ nr + 1 ≤ i) A l.length l) (hv : v.ownBlock = u.ownBlock ∨ ∃ g, v.ownBlock = some g ∧ w3.heap.size ≤ g) : Kd.F k33 wN (okw ok n0 n1 v) A l.length l := by
  refine Kd.F_mono (Kd.F_step (Kd.F_bound hF) (fun i hi hlt => hs.block i hlt (fun e => ?_))) (fun i hi => ⟨?_, fun e => ?_⟩)
  · rcases hi.1 with h | h
    · exact h.2 e
    · have := hu _ e; omega
  · rcases hi.1 with h | h
    · exact h.1
    · exact .inr (by omega)
  · rcases hv with hv | ⟨g, hg, hle⟩
    · rw [hv] at e
      rcases hi.1 with h | h
      · exact h.2 e
      · have := hu _ e; omega
    · rw [hg] at e; injection e with e; have := hi.2; omega
theorem bout_hit {b : List Ent} {j : S33} {k : Nat} (hk : k < b.length) (h : whit j b[k] = true) : bout (b.take (k + 1)) j = bout (b.take k) j ++ [b[k].1] := by
  unfold bout
  rw [take_filter_hit hk h, List.map_append]; rfl
theorem bout_miss {b : List Ent} {j : S33} {k : Nat} (hk : k < b.length) (h : whit j b[k] = false) : bout (b.take (k + 1)) j = bout (b.take k) j := by
  unfold bout
  rw [take_filter_miss hk h]

set_option maxRecDepth 100000 in
set_option maxHeartbeats 2000000 in
theorem withdraw_any (B M : Nat) (b : List Ent) (w : World) (ok : Nat → Prop) (j : S33) (Aj : Option Addr) (cj : Nat) (hB : w.heap[B]? = some (.cells #[.map (some M)] 49 (0, 0))) (hMB : MapB w ok M b) (hM : ¬ ok M) (hlen : b.length < 1000000)
    (hkr : ∀ x ∈ b, i64r x.1) (hll : ∀ x ∈ b, x.2.2.length ≤ 1000000) (okj : Nat → Prop) (hj : Kd.F ki w okj Aj j.f1.length j.f1) (hjM : ¬ okj M) :
    Calls Try.prog 23 #[.pointer (some ⟨B, 0, none⟩), .agg #[.int .i64 j.f0, .slice Aj j.f1.length cj]] w fun e w' => ∃ A c, e = .returned (.slice A (bout b j).length c) ∧ Kd.N ki 3 w' w.heap.size (fun i => w.heap.size ≤ i) (.slice A (bout b j).length c) (bout b j) ∧
      MapB w' (fun i => ok i ∨ w.heap.size ≤ i) M (bwd b j) ∧ Stp (· = M) w w' := by
  have hMl := hMB.lt
  have hBM := hMB.ne hB
  have hsort := hMB.sorted
  obtain ⟨X, hX⟩ : ∃ X, X = Obj.cells #[.int .i64 j.f0, .slice Aj j.f1.length cj] 33 (0, 0) := ⟨_, rfl⟩
  have hb0 : Below w.heap.size w (w.alloc X) := (Below.refl _ w).alloc (Nat.le_refl _) _
  have hB0 := heap_alloc_lt w X hB
  have hMB0 : MapB (w.alloc X) (fun i => ok i ∧ i < w.heap.size) M b := (hMB.mono (ok' := fun i => ok i ∧ i < w.heap.size) (fun i h1 h2 => ⟨h1, h2⟩)).step (hb0.block M hMl) (fun i hi hlt => hb0.block i hlt)
  have hF := facts_N B M b (w.alloc X) _ hB0 hMB0 hlen
  have hJ0 := World.alloc_heap_new w X
  rw [hX] at hF hJ0
  have HF := Lib.hid hF
  have HJ := Lib.hid hJ0
  have HX := Lib.hid hX
  clear hF hJ0 hB0
  rw [hX] at hMB0 hb0
  have HM0 := Lib.hid hMB0
  have HB0 := Lib.hid hb0
  clear hMB0 hb0 hX
  go_enter Try.func23, Try.ntmps23
  go_wp2_with (go_at_call 8; refine (HF.out).mono ?_; rintro e w1 ⟨A1, c1, rfl, hN1, hb1⟩)
  have hbw1 : Below w.heap.size w w1 := HB0.out.trans (hb1.mono (by simp))
  have hsz1 : w.heap.size < w1.heap.size := by have := hb1.size; simp at this; omega
  have hJ1 : w1.heap[w.heap.size]? = some (.cells #[.int .i64 j.f0, .slice Aj j.f1.length cj] 33 (0, 0)) := (hb1.block _ (by simp)).trans HJ.out
  have hB1 := hbw1.block B (blk_lt' hB) |>.trans hB
  have hFK : Kd.F ki w1 (fun i => w.heap.size < i ∧ i < w1.heap.size) A1 b.length (b.map (·.1)) := Kd.F_mono (Kd.F_bound (Kd.N_F hN1)) (fun i hi => ⟨by have := hi.1; simp at this; omega, hi.2⟩)
  have hFj1 : Kd.F ki w1 (fun i => okj i ∧ i < w.heap.size) Aj j.f1.length j.f1 := Kd.F_below (Kd.F_bound hj) hbw1
  have hMB1 : MapB w1 (okw ok w.heap.size w1.heap.size (.slice none 0 0)) M b :=
    ((hMB.mono (ok' := fun i => ok i ∧ i < w.heap.size) (fun i h1 h2 => ⟨h1, h2⟩)).step (hbw1.block M hMl) (fun i hi hlt => hbw1.block i hlt)).mono (fun i hi _ => ⟨.inl hi, by simp [Value.ownBlock]⟩)
  have HJ1 := Lib.hid hJ1
  have HB1 := Lib.hid hB1
  have HB2 := Lib.hid hB
  have HS := Lib.hid hsort
  have HMB := Lib.hid hMB
  clear hJ1 hB1 hB hsort hMB
  go_loopw [4, 12] (fun vo vi W => ∃ k : Nat, k ≤ b.length ∧ vi = .int .i64 k ∧ Kd.N ki 3 W w1.heap.size (fun i => w1.heap.size ≤ i) vo (bout (b.take k) j) ∧ MapB W (okw ok w.heap.size w1.heap.size vo) M (wcur b j k) ∧ Stp (· = M) w1 W) (fun vo vi _ => b.length - (intOf vi).toNat)
  case atStart => exact ⟨0, Nat.zero_le _, rfl, Kd.N_nil _ _ _ _ _, by simpa [wcur] using hMB1, Stp.refl _ _⟩
  case round =>
    obtain ⟨k, hk, rfl, hNo, hMW, hsW⟩ := hrel
    have hsz := hsW.size
    have hbsW : Stp (· = M) w wr := (Stp.of_below (S := (· = M)) hbw1).trans hsW (fun _ _ h => h)
    by_cases hlt : k < b.length
    · have hBW := hbsW.keep HB2.out hBM
      have cB : wr.cell? ⟨B, 0, none⟩ = some (.map (some M)) := by rw [cell_blk hBW]; rfl
      have hFKr : Kd.F ki wr (fun i => w.heap.size < i ∧ i < w1.heap.size) A1 (b.map (·.1)).length (b.map (·.1)) := by
        rw [List.length_map]
        exact Kd.F_step hFK (fun i hi hlt => hsW.block i hlt (fun e => by omega))
      obtain ⟨ab, ao, rfl, habl, hcs⟩ := C_addr (Kd.F_now hFKr) (by simpa using (by omega : 0 < b.length))
      have ck := hcs k (by simpa using hlt)
      have hgd : (b.map (·.1)).getD k 0 = b[k].1 := by simp [List.getD_eq_getElem?_getD, hlt]
      rw [hgd] at ck
      have hkk : i64r b[k].1 := hkr _ (List.getElem_mem hlt)
      have hlk : b[k].2.2.length ≤ 1000000 := hll _ (List.getElem_mem hlt)
      obtain ⟨v, hv, hrun⟩ := hMW.look hkk
      rw [wcur_get hlt HS.out] at hv
      obtain ⟨A, c, rfl, hcl, hFl⟩ := hv
      have hl := hrun wr rfl
      obtain ⟨Y, hY⟩ : ∃ Y, Y = Obj.cells #[.bool b[k].2.1, .slice A b[k].2.2.length c] 57 (0, 0) := ⟨_, rfl⟩
      have hbY : Below wr.heap.size wr (wr.alloc Y) := (Below.refl _ _).alloc (Nat.le_refl _) _
      have hYb : (wr.alloc Y).heap[wr.heap.size]? = some Y := World.alloc_heap_new wr Y
      have hJr : wr.heap[w.heap.size]? = some (.cells #[.int .i64 j.f0, .slice Aj j.f1.length cj] 33 (0, 0)) := hsW.keep HJ1.out (fun e => by omega)
      have hFjr : Kd.F ki wr (fun i => okj i ∧ i < w.heap.size) Aj j.f1.length j.f1 := Kd.F_step hFj1 (fun i hi hlt => hsW.block i hlt (fun e => hjM (e ▸ hi.1)))
      have hcl48 := cloneJ_any A c b[k].2.2 (wr.alloc Y) (okw ok w.heap.size w1.heap.size u4) (Kd.F_alloc hFl _) hlk
      have HCL := Lib.hid hcl48
      have HYb := Lib.hid hYb
      have HbY := Lib.hid hbY
      have HR := Lib.hid hrun
      have HYY := Lib.hid hY
      have Hjr := Lib.hid hJr
      clear hcl48 hYb hbY hrun hcs hJr
      rw [hY] at HCL
      have hdel : ∀ w2 v2, Kd.N k33 33 w2 (wr.alloc Y).heap.size (fun i => okw ok w.heap.size w1.heap.size u4 i ∨ (wr.alloc Y).heap.size ≤ i) v2 b[k].2.2 → Below (wr.alloc Y).heap.size (wr.alloc Y) w2 →
          Hid (Calls Try.prog 50 #[v2, .func (.func 51) #[] #[.pointer (some ⟨w.heap.size, 0, none⟩)]] w2 fun e w' => ∃ v', e = .returned v' ∧ Kd.N k33 33 w' (wr.alloc Y).heap.size (fun i => okw ok w.heap.size w1.heap.size u4 i ∨ (wr.alloc Y).heap.size ≤ i) v' (b[k].2.2.filter (fun x => !jeq x j)) ∧ Below wr.heap.size wr w' ∧ w'.heap[wr.heap.size]? = some Y) := by
        intro w2 v2 hN2 hb2
        have hbr2 : Below wr.heap.size wr w2 := HbY.out.trans (hb2.mono (by simp))
        have hv2 := Kd.N_base hN2
        refine Lib.hid ((delJ_any 51 _ (fun x => jeq x j) enters51 v2 b[k].2.2 w2 _ _ hN2 hlk (predS51 _ j Aj cj w.heap.size _ w2 ((hbr2.block _ (by omega)).trans Hjr.out) (fun i => okj i ∧ i < w.heap.size) (Kd.F_below hFjr hbr2) (fun e => by have := hv2 _ e; simp at this; omega) (fun i hi e => by have := hv2 _ e; simp at this; omega))).mono ?_)
        rintro e w3 ⟨v3, rfl, hN3, hs3⟩
        refine ⟨v3, rfl, hN3, hbr2.trans (hs3.to_below hbr2.size (fun i e => by have := hv2 _ e; simp at this; omega)), ?_⟩
        exact hs3.keep ((hb2.block _ (by simp)).trans HYb.out) (fun e => by have := hv2 _ e; simp at this; omega)
      rw [hY] at hdel
      clear hY
      go_wp2_with (go_at_call 48; refine (HCL.out).mono ?_; rintro e w2 ⟨v2, rfl, hN2, hb2⟩; have HD := hdel w2 v2 hN2 hb2; clear hdel)
      cases hany : b[k].2.2.any (fun x => jeq x j) with
      | true =>
        have hflt := (filter_lt _ _).2 hany
        have HA := Lib.hid hany
        clear hany
        go_wp2_with (first
          | (go_at_call 50; refine (HD.out).mono ?_; rintro e w3 ⟨v3, rfl, hN3, hb3, hY3⟩; obtain ⟨A3, c3, rfl⟩ := Kd.N_slice hN3; have y31 : w3.cell? ⟨wr.heap.size, 1, none⟩ = some (.slice A b[k].2.2.length c) := (by rw [cell_blk hY3]; rfl); have y30 : w3.cell? ⟨wr.heap.size, 0, none⟩ = some (.bool b[k].2.1) := (by rw [cell_blk hY3]; rfl); have hNo3 := Kd.N_below hNo hb3)
          | (at_builtin; refine Kd.N_append (w0 := w3) ki w1.heap.size rfl _ _ 31 3 (.int .i64 0) 8 rfl Try.underlying31 info3 rfl (by decide) (by decide) u4 (bout (b.take k) j) b[k].1 [.int .i64 b[k].1] (fun i => w1.heap.size ≤ i) (fun _ => False) rfl rfl (fun W' _ => (rfl : [Value.int .i64 b[k].1] = [Value.int .i64 b[k].1])) (fun _ h => h.elim) (fun i hi => by have := hb3.size; omega) hNo3 (Below.refl _ _) (by have := hb3.size; omega) (by have : (bout (b.take k) j).length ≤ b.length := bout_len b j k; omega) ?_; intro v4 w4 hN4 hB4 hg4 hat4))
        have hu4 : ∀ g, u4.ownBlock = some g → w1.heap.size ≤ g ∧ g < wr.heap.size := fun g hg => ⟨Kd.N_base hNo g hg, Kd.N_lt hNo g hg⟩
        have hs34 : Stp (fun i => u4.ownBlock = some i) w3 w4 := Stp.of_grown hg4
        have hvo : (v4).ownBlock = u4.ownBlock ∨ ∃ g, (v4).ownBlock = some g ∧ w3.heap.size ≤ g := hat4
        have hsz3 := hb3.size
        have hsrN : Stp (fun i => u4.ownBlock = some i) wr w4 := (Stp.of_below (S := fun i => u4.ownBlock = some i) hb3).trans hs34 (fun _ _ h => h)
        have hMN : MapB w4 (okw ok w.heap.size w1.heap.size v4) M (wcur b j k) := okw_map (by omega) hsrN hu4 hMW (hvo.imp id (fun ⟨g, h1, h2⟩ => ⟨g, h1, by omega⟩))
        have hFN : Kd.F k33 w4 (okw ok w.heap.size w1.heap.size v4) A3 (b[k].2.2.filter (fun x => !jeq x j)).length (b[k].2.2.filter (fun x => !jeq x j)) := okw_F (nr := wr.heap.size) hs34 hu4 hsz (by simpa using Kd.N_F hN3) hvo
        have hY4 := hs34.keep hY3 (fun e => by have := hu4 _ e; omega)
        have hB4 := hsrN.keep hBW (fun e => by have := hu4 _ e; have := blk_lt' HB2.out; omega)
        have hc3 := (Kd.N_reads' hN3).2.1
        have hNN : Kd.N ki 3 w4 w1.heap.size (fun i => w1.heap.size ≤ i) v4 (bout (b.take (k + 1)) j) := (by rw [bout_hit hlt HA.out]; exact hN4)
        have hs1N : Stp (fun i => w1.heap.size ≤ i) wr w4 := hsrN.mono (fun i _ hi => (hu4 i hi).1)
        obtain ⟨w7, hE⟩ : ∃ w7, w7 = w4.drew := ⟨_, rfl⟩
        have hB7 : w7.heap[B]? = some (.cells #[.map (some M)] 49 (0, 0)) := by rw [hE]; exact hB4
        have hc7 : w7.cell? ⟨B, 0, none⟩ = some (.map (some M)) := by rw [cell_blk hB7]; rfl
        have hY7 : w7.heap[wr.heap.size]? = some (.cells #[.bool b[k].2.1, .slice A b[k].2.2.length c] 57 (0, 0)) := by rw [hE]; exact hY4
        have s70 : w7.cell? ⟨wr.heap.size, 0, none⟩ = some (.bool b[k].2.1) := by rw [cell_blk hY7]; rfl
        have s71 : w7.cell? ⟨wr.heap.size, 1, none⟩ = some (.slice A b[k].2.2.length c) := by rw [cell_blk hY7]; rfl
        have hM7 : MapB w7 (okw ok w.heap.size w1.heap.size v4) M (wcur b j k) := by rw [hE]; exact hMN.step rfl (fun _ _ _ => rfl)
        have hF7 : Kd.F k33 w7 (okw ok w.heap.size w1.heap.size v4) A3 (b[k].2.2.filter (fun x => !jeq x j)).length (b[k].2.2.filter (fun x => !jeq x j)) := by rw [hE]; exact Kd.F_drew hFN
        have hN7 : Kd.N ki 3 w7 w1.heap.size (fun i => w1.heap.size ≤ i) v4 (bout (b.take (k + 1)) j) := by rw [hE]; exact Kd.N_drew hNN
        have hs17 : Stp (fun i => w1.heap.size ≤ i) wr w7 := by rw [hE]; exact hs1N.drew
        refine wp_region_still_tail 9 (by kernel_rfl) (by kernel_rfl) ?_
        change wpStill _ _ w4.drew (fun a' => wpList _ _ _ _ a' w4.drew) _ _
        rw [← hE]
        have HE := Lib.hid hE
        clear hE
        simp only [List.take_succ_cons, List.take_zero, List.drop_succ_cons, List.drop_zero]
        repeat still_step
        refine wpStill_nil ?_
        obtain ⟨l, hown, hFl2⟩ := hM7.ex
        have hkey := key64 hkk
        have hlen2 : (wcur b j k).length < 1000000 := by rw [wcur_len]; exact hlen
        have HF7 := Lib.hid hF7
        go_wp2_with (at_mapUpdate; refine wpList_mapUpdate_own _ rfl _ _ _ 47 rfl 3 57 K47 Try.underlying47 heldR M (wcur b j k).length (.map l) rfl hown (by unfold maxLen; omega) _ _ (.int .i64 b[k].1) rfl rfl hkey (.held (.agg #[.bool b[k].2.1, .slice A3 (b[k].2.2.filter (fun x => !jeq x j)).length c3])) [] rfl ?_; intro w8 hown8 hgrow8)
        refine ⟨?rel0, ?measure⟩
        case rel0 =>
          have hnM : ¬ okw ok w.heap.size w1.heap.size v4 M := fun h => h.1.elim (fun h => hM h.1) (fun h => by omega)
          have hp := hM7.put (x := (b[k].2.1, b[k].2.2.filter (fun x => !jeq x j))) ⟨A3, c3, rfl, hc3, HF7.out⟩ hgrow8 hnM (n := (wcur b j k).length + 1) hown8 hFl2
          rw [wcur_put hlt HS.out] at hp
          exact ⟨k + 1, by omega, by go_num, Kd.N_grown hN7 hgrow8 (fun i hi e => by injection e with e; omega), hp, (hsW.trans hs17 (fun i hi h => by omega)).trans (Stp.grown1 hgrow8) (fun _ _ h => h)⟩
        case measure => simp [intOf]; omega
      | false =>
        have hflt : ¬ (b[k].2.2.filter (fun x => !jeq x j)).length < b[k].2.2.length := fun h => by rw [(filter_lt _ _).1 h] at hany; cases hany
        have HA := Lib.hid hany
        clear hany
        go_wp2_with (go_at_call 50; refine (HD.out).mono ?_; rintro e w3 ⟨v3, rfl, hN3, hb3, hY3⟩; obtain ⟨A3, c3, rfl⟩ := Kd.N_slice hN3; have y31 : w3.cell? ⟨wr.heap.size, 1, none⟩ = some (.slice A b[k].2.2.length c) := (by rw [cell_blk hY3]; rfl); have y30 : w3.cell? ⟨wr.heap.size, 0, none⟩ = some (.bool b[k].2.1) := (by rw [cell_blk hY3]; rfl))
        have hu4 : ∀ g, u4.ownBlock = some g → w1.heap.size ≤ g ∧ g < wr.heap.size := fun g hg => ⟨Kd.N_base hNo g hg, Kd.N_lt hNo g hg⟩
        have hs34 : Stp (fun i => u4.ownBlock = some i) w3 w3 := Stp.refl _ _
        have hvo : (u4).ownBlock = u4.ownBlock ∨ ∃ g, (u4).ownBlock = some g ∧ w3.heap.size ≤ g := .inl rfl
        have hsz3 := hb3.size
        have hsrN : Stp (fun i => u4.ownBlock = some i) wr w3 := (Stp.of_below (S := fun i => u4.ownBlock = some i) hb3).trans hs34 (fun _ _ h => h)
        have hMN : MapB w3 (okw ok w.heap.size w1.heap.size u4) M (wcur b j k) := okw_map (by omega) hsrN hu4 hMW (hvo.imp id (fun ⟨g, h1, h2⟩ => ⟨g, h1, by omega⟩))
        have hFN : Kd.F k33 w3 (okw ok w.heap.size w1.heap.size u4) A3 (b[k].2.2.filter (fun x => !jeq x j)).length (b[k].2.2.filter (fun x => !jeq x j)) := okw_F (nr := wr.heap.size) hs34 hu4 hsz (by simpa using Kd.N_F hN3) hvo
        have hY4 := hs34.keep hY3 (fun e => by have := hu4 _ e; omega)
        have hB4 := hsrN.keep hBW (fun e => by have := hu4 _ e; have := blk_lt' HB2.out; omega)
        have hc3 := (Kd.N_reads' hN3).2.1
        have hNN : Kd.N ki 3 w3 w1.heap.size (fun i => w1.heap.size ≤ i) u4 (bout (b.take (k + 1)) j) := (by rw [bout_miss hlt HA.out]; exact Kd.N_below hNo hb3)
        have hs1N : Stp (fun i => w1.heap.size ≤ i) wr w3 := hsrN.mono (fun i _ hi => (hu4 i hi).1)
        obtain ⟨w7, hE⟩ : ∃ w7, w7 = w3.drew := ⟨_, rfl⟩
        have hB7 : w7.heap[B]? = some (.cells #[.map (some M)] 49 (0, 0)) := by rw [hE]; exact hB4
        have hc7 : w7.cell? ⟨B, 0, none⟩ = some (.map (some M)) := by rw [cell_blk hB7]; rfl
        have hY7 : w7.heap[wr.heap.size]? = some (.cells #[.bool b[k].2.1, .slice A b[k].2.2.length c] 57 (0, 0)) := by rw [hE]; exact hY4
        have s70 : w7.cell? ⟨wr.heap.size, 0, none⟩ = some (.bool b[k].2.1) := by rw [cell_blk hY7]; rfl
        have s71 : w7.cell? ⟨wr.heap.size, 1, none⟩ = some (.slice A b[k].2.2.length c) := by rw [cell_blk hY7]; rfl
        have hM7 : MapB w7 (okw ok w.heap.size w1.heap.size u4) M (wcur b j k) := by rw [hE]; exact hMN.step rfl (fun _ _ _ => rfl)
        have hF7 : Kd.F k33 w7 (okw ok w.heap.size w1.heap.size u4) A3 (b[k].2.2.filter (fun x => !jeq x j)).length (b[k].2.2.filter (fun x => !jeq x j)) := by rw [hE]; exact Kd.F_drew hFN
        have hN7 : Kd.N ki 3 w7 w1.heap.size (fun i => w1.heap.size ≤ i) u4 (bout (b.take (k + 1)) j) := by rw [hE]; exact Kd.N_drew hNN
        have hs17 : Stp (fun i => w1.heap.size ≤ i) wr w7 := by rw [hE]; exact hs1N.drew
        refine wp_region_still_tail 9 (by kernel_rfl) (by kernel_rfl) ?_
        change wpStill _ _ w3.drew (fun a' => wpList _ _ _ _ a' w3.drew) _ _
        rw [← hE]
        have HE := Lib.hid hE
        clear hE
        simp only [List.take_succ_cons, List.take_zero, List.drop_succ_cons, List.drop_zero]
        repeat still_step
        refine wpStill_nil ?_
        obtain ⟨l, hown, hFl2⟩ := hM7.ex
        have hkey := key64 hkk
        have hlen2 : (wcur b j k).length < 1000000 := by rw [wcur_len]; exact hlen
        have HF7 := Lib.hid hF7
        go_wp2_with (at_mapUpdate; refine wpList_mapUpdate_own _ rfl _ _ _ 47 rfl 3 57 K47 Try.underlying47 heldR M (wcur b j k).length (.map l) rfl hown (by unfold maxLen; omega) _ _ (.int .i64 b[k].1) rfl rfl hkey (.held (.agg #[.bool b[k].2.1, .slice A3 (b[k].2.2.filter (fun x => !jeq x j)).length c3])) [] rfl ?_; intro w8 hown8 hgrow8)
        refine ⟨?rel0, ?measure⟩
        case rel0 =>
          have hnM : ¬ okw ok w.heap.size w1.heap.size u4 M := fun h => h.1.elim (fun h => hM h.1) (fun h => by omega)
          have hp := hM7.put (x := (b[k].2.1, b[k].2.2.filter (fun x => !jeq x j))) ⟨A3, c3, rfl, hc3, HF7.out⟩ hgrow8 hnM (n := (wcur b j k).length + 1) hown8 hFl2
          rw [wcur_put hlt HS.out] at hp
          exact ⟨k + 1, by omega, by go_num, Kd.N_grown hN7 hgrow8 (fun i hi e => by injection e with e; omega), hp, (hsW.trans hs17 (fun i hi h => by omega)).trans (Stp.grown1 hgrow8) (fun _ _ h => h)⟩
        case measure => simp [intOf]; omega
    · go_wp2
      go_ret
      have hkl : k = b.length := by omega
      subst hkl
      obtain ⟨A, c, rfl⟩ := Kd.N_slice hNo
      rw [List.take_length] at hNo ⊢
      have hw : wcur b j b.length = bwd b j := by simp [wcur, bwd]
      rw [hw] at hMW
      exact ⟨A, c, rfl, Kd.N_mono (Kd.N_lower hNo (by omega)) (fun i hi => by omega), hMW.mono (fun i hi _ => hi.1.elim (fun h => .inl h.1) (fun h => .inr (by omega))), hbsW⟩
end Go.Proofs.Ytbmnefdiiibabaa
