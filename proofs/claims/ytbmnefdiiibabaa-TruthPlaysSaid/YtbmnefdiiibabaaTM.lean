import Derived.Test.YtbmnefdiiibabaaTJ
import Derived.Shelf.SlMaps.Clone
import Derived.Lib.SliceRun
namespace Go.Proofs.Ytbmnefdiiibabaa
set_option linter.unusedVariables false
set_option linter.unusedSimpArgs false
open Go.RowKit Go.Maps Go.Sort Go.Shelf Go.Proofs.YtbmnefdiiibabaaW.PrintWords Go.Proofs.YtbmnefdiiibabaaW.PrintMore PTruthPlays

theorem cloneM_any (M : Nat) (es : Array MapEntry) (clock : Nat) (w : World) (hb : w.heap[M]? = some (.map es clock)) :
    Calls Try.prog 52 #[.map (some M)] w fun e w' => e = .returned (.map (some w.heap.size)) ∧ w' = w.alloc (.map es clock) := AnyW.maps_Clone Try.cloneM M es clock w hb

set_option maxRecDepth 100000 in
set_option maxHeartbeats 400000 in
theorem copy_any (B M : Nat) (b : List Ent) (w : World) (ok : Nat → Prop) (hB : w.heap[B]? = some (.cells #[.map (some M)] 49 (0, 0))) (hMB : MapB w ok M b) :
    Calls Try.prog 26 #[.pointer (some ⟨B, 0, none⟩)] w fun e w' => e = .returned (.pointer (some ⟨w.heap.size + 1, 0, none⟩)) ∧ w'.heap[w.heap.size + 1]? = some (.cells #[.map (some w.heap.size)] 49 (0, 0)) ∧ MapB w' (fun i => ok i ∧ i < w.heap.size) w.heap.size b ∧ Below w.heap.size w w' := by
  have hc : w.cell? ⟨B, 0, none⟩ = some (.map (some M)) := by rw [cell_blk hB]; rfl
  obtain ⟨l, ⟨es, clock, hb, r⟩, hF⟩ := hMB.ex
  have hcl := cloneM_any M es clock w hb
  have HC := Lib.hid hcl
  have HB := Lib.hid hb
  clear hcl hb
  go_enter Try.func26, Try.ntmps26
  go_wp2_with (first
    | (go_at_call 28; refine (none_any B M _ hB).mono ?_; rintro e w' ⟨rfl, rfl⟩)
    | (go_at_call 52; refine (HC.out).mono ?_; rintro e w' ⟨rfl, rfl⟩))
  go_ret
  have hB2 : Below w.heap.size w ((w.alloc (.map es clock)).alloc (.cells #[.map (some w.heap.size)] 49)) := ((Below.refl _ _).alloc (Nat.le_refl _) _).alloc (by simp) _
  have hm : ((w.alloc (.map es clock)).alloc (.cells #[.map (some w.heap.size)] 49)).heap[w.heap.size]? = some (.map es clock) := heap_alloc_lt _ _ (World.alloc_heap_new w _)
  refine ⟨by simp, ?_, ⟨l, ⟨es, clock, hm, r⟩, rows_imp (fun _ _ hv => (hv.mono (ok' := fun i => ok i ∧ i < w.heap.size) (fun i h1 h2 => ⟨h1, h2⟩)).step (fun i hi hlt => hB2.block i hlt)) hF⟩, hB2⟩
  have := World.alloc_heap_new (w.alloc (.map es clock)) (.cells #[.map (some w.heap.size)] 49)
  simpa using this
end Go.Proofs.Ytbmnefdiiibabaa

namespace Go.Proofs.Ytbmnefdiiibabaa
set_option linter.unusedVariables false
set_option linter.unusedSimpArgs false
open Go.RowKit Go.Maps Go.Sort Go.Shelf Go.Proofs.YtbmnefdiiibabaaW.PrintWords Go.Proofs.YtbmnefdiiibabaaW.PrintMore PTruthPlays

/-! ### cells of one block written in a row -/
theorem setCells_blk {g e : Nat} : ∀ (vs : List Value) (o : Nat) (W : World) (cur : Array Value), W.heap[g]? = some (.cells cur e (0, 0)) →
    ∃ cur', (W.setCells g o vs).heap[g]? = some (.cells cur' e (0, 0)) ∧ cur'.size = cur.size ∧ (∀ i, i < o → cur'[i]? = cur[i]?) ∧ Stp (· = g) W (W.setCells g o vs)
  | [], o, W, cur, h => ⟨cur, h, rfl, fun _ _ => rfl, Stp.refl _ _⟩
  | v :: r, o, W, cur, h => by
    have h1 := blk_set h o v
    obtain ⟨cur', h2, h3, h4, h5⟩ := setCells_blk r (o + 1) (W.setCell ⟨g, o, none⟩ v) _ h1
    refine ⟨cur', h2, by rw [h3]; simp, fun i hi => ?_, ((Stp.refl (· = g) W).setCell (p := ⟨g, o, none⟩) (.inl rfl) v).trans h5 (fun _ _ h => h)⟩
    rw [h4 i (by omega)]
    rw [Array.getElem?_setIfInBounds_ne (by omega)]

/-- a row of the call's own, cut, while the cells behind the cut are written -/
theorem N_tail {α : Type} {d : Kd α} {e base g n cap : Nat} {ok : Nat → Prop} {W W' : World} {xs : List α} (h : Kd.N d e W base ok (.slice (some ⟨g, 0, none⟩) n cap) xs)
    (hs : Stp (· = g) W W') (hb : ∀ cur, W.heap[g]? = some (.cells cur e (0, 0)) → ∃ cur', W'.heap[g]? = some (.cells cur' e (0, 0)) ∧ cur'.size = cur.size ∧ ∀ i, i < n * d.sz → cur'[i]? = cur[i]?) : Kd.N d e W' base ok (.slice (some ⟨g, 0, none⟩) n cap) xs := by
  obtain ⟨h0, rows, hl, ⟨hr0, inner, ⟨hi1, hi2⟩, hr⟩, hf⟩ := h
  refine ⟨h0, rows, hl, ⟨hr0, inner, ⟨hi1, ?_⟩, hr⟩, fun j x c hx hc => Kd.FK_step (hf j x c hx hc) (fun k hk hlt => hs.block k hlt (fun e => hk.2 (by simp [Value.ownBlock, e])))⟩
  rcases hi2 with ⟨he, _⟩ | ⟨g', cap', cur, he, hbase, hg, h1, h2, h3, h4⟩
  · cases he
  · injection he with hea hen hec
    injection hea with hea
    injection hea with heg
    subst heg; subst hec
    obtain ⟨cur', hg', hsz, hget⟩ := hb cur hg
    refine .inr ⟨g, cap, cur', by rw [hen], hbase, hg', h1, h2, hsz.trans h3, ?_⟩
    rw [← h4]
    apply List.ext_getElem?
    intro i
    rw [List.getElem?_take, List.getElem?_take]
    split
    · rename_i hlt
      have hlt2 : i < n * d.sz := by rw [hen]; exact hlt
      have := hget i hlt2
      simpa using this
    · rfl

/-- a predicate on justifications, while the blocks of S are written -/
def PredS (S : Nat → Prop) (g : Nat) (lb : Array Value) (p : S33 → Bool) (l : List S33) (w : World) : Prop :=
  ∀ W, Stp S w W → ∀ x ∈ l, ∀ A c, ki.C W A x.f1.length x.f1 → Calls Try.prog g (#[.agg #[.int .i64 x.f0, .slice A x.f1.length c]] ++ lb) W fun e W' => e = .returned (.bool (p x)) ∧ Below W.heap.size W W'
theorem PredS.predJ {S : Nat → Prop} {g : Nat} {lb : Array Value} {p : S33 → Bool} {l : List S33} {w : World} (h : PredS S g lb p l w) : PredJ g lb p l w := fun W hW x hx A c hC => h W (Stp.of_below hW) x hx A c hC

/-! ### the lists of DeleteFunc -/
theorem take_filter_hit {α : Type} {q : α → Bool} {l : List α} {j : Nat} (hj : j < l.length) (h : q l[j] = true) : (l.take (j + 1)).filter q = (l.take j).filter q ++ [l[j]] := by
  rw [List.take_succ_eq_append_getElem hj, List.filter_append]; simp [h]
theorem take_filter_miss {α : Type} {q : α → Bool} {l : List α} {j : Nat} (hj : j < l.length) (h : q l[j] = false) : (l.take (j + 1)).filter q = (l.take j).filter q := by
  rw [List.take_succ_eq_append_getElem hj, List.filter_append]; simp [h]
theorem set_take {α : Type} {cur : List α} {k : Nat} {x : α} (hk : k < cur.length) : (cur.set k x).take (k + 1) = cur.take k ++ [x] := by
  rw [List.take_succ_eq_append_getElem (by simpa using hk)]
  simp [List.take_set_of_le]
theorem set_drop {α : Type} {cur : List α} {k j : Nat} {x : α} (hk : k < j) : (cur.set k x).drop j = cur.drop j := by
  rw [List.drop_set_of_lt hk]
theorem idxP_first {α : Type} {p : α → Bool} {l : List α} (h : idxP p l ≠ -1) : ∃ k, ∃ hk : k < l.length, idxP p l = k ∧ p l[k] = true ∧ ∀ j (hj : j < k), p (l[j]'(by omega)) = false := by
  unfold idxP at h ⊢
  cases hf : l.findIdx? p with
  | none => rw [hf] at h; exact absurd rfl h
  | some i =>
    rw [List.findIdx?_eq_some_iff_getElem] at hf
    obtain ⟨hi, hp, hb⟩ := hf
    exact ⟨i, hi, rfl, hp, fun j hj => by have := hb j hj; simpa using this⟩
theorem idxP_no {α : Type} {p : α → Bool} {l : List α} (h : idxP p l = -1) : l.filter (fun x => !p x) = l := by
  unfold idxP at h
  cases hf : l.findIdx? p with
  | some i => rw [hf] at h; simp at h
  | none =>
    rw [List.findIdx?_eq_none_iff] at hf
    rw [List.filter_eq_self]
    intro x hx
    simp [hf x hx]
theorem take_filter_all {α : Type} {p : α → Bool} {l : List α} {k : Nat} (hk : k < l.length) (hp : p l[k] = true) (hb : ∀ j (hj : j < k), p (l[j]'(by omega)) = false) : (l.take (k + 1)).filter (fun x => !p x) = l.take k := by
  rw [take_filter_miss hk (by simp [hp]), List.filter_eq_self]
  intro x hx
  obtain ⟨j, hj, rfl⟩ := List.getElem_of_mem hx
  rw [List.length_take] at hj
  rw [List.getElem_take]
  simp [hb j (by omega)]

theorem sz33 : (Try.prog.info? 33).map (·.size) = some [Value.int .i64 0, Value.slice none 0 0].length := by kernel_rfl
theorem zero33 (w : World) : (zeroValue 33).run Try.prog w = .ok (.agg #[.int .i64 0, .slice none 0 0]) w := by kernel_rfl
theorem zc_len (n : Nat) : (Builtin.zeroCells (Value.agg #[.int .i64 0, .slice none 0 0]).cells n).toList.length = n * 2 := by
  simp [Builtin.zeroCells, Value.cells]
theorem zc_one (n : Nat) : ∀ v ∈ (Builtin.zeroCells (Value.agg #[.int .i64 0, .slice none 0 0]).cells n).toList, v.oneCell' = true := by
  intro v hv
  have hv : v ∈ Builtin.zeroCells (Value.agg #[.int .i64 0, .slice none 0 0]).cells n := by simpa using hv
  rw [Array.mem_iff_getElem] at hv
  obtain ⟨i, hi, rfl⟩ := hv
  have : i % 2 = 0 ∨ i % 2 = 1 := by omega
  rcases this with h | h <;> simp [Builtin.zeroCells, Value.cells, h] <;> rfl
/-- 'clear(s)' of a row of justifications -/
theorem run_clear_J (w : World) (ty : TypeId) (b o n c : Nat) (hn : 0 < n) (cur : Array Value) (hb : w.heap[b]? = some (.cells cur 33 (0, 0))) (hs : o + n * 2 ≤ cur.size) :
    (Builtin.clear_ #[39] ty #[.slice (some ⟨b, o, none⟩) n c]).run Try.prog w = .ok (.tuple #[]) (w.setCells b o (Builtin.zeroCells (Value.agg #[.int .i64 0, .slice none 0 0]).cells n).toList) := by
  have hst := run_storeCells_cells (P := Try.prog) b o (Builtin.zeroCells (Value.agg #[.int .i64 0, .slice none 0 0]).cells n).toList 0 w (fun j hj => by rw [zc_len] at hj; rw [cell_of_row w b _ cur 33 (0, 0) hb]; simp; omega) (fun j _ => blk_frozen hb _) (zc_one n)
  simp only [Nat.add_zero] at hst
  obtain ⟨m, rfl⟩ : ∃ m, n = m + 1 := ⟨n - 1, by omega⟩
  simp [Builtin.clear_, run_underlying Try.underlying39, zero33, hst]
theorem N_block {α : Type} {d : Kd α} {e base g n cap : Nat} {ok : Nat → Prop} {W : World} {xs : List α} (h : Kd.N d e W base ok (.slice (some ⟨g, 0, none⟩) n cap) xs) (hp : 0 < d.sz) :
    ∃ cur, W.heap[g]? = some (.cells cur e (0, 0)) ∧ n * d.sz ≤ cur.size := by
  obtain ⟨h0, rows, hl, ⟨hr0, inner, ⟨hi1, hi2⟩, hr⟩, hf⟩ := h
  rcases hi2 with ⟨he, _⟩ | ⟨g', cap', cur, he, hbase, hg, h1, h2, h3, h4⟩
  · cases he
  · injection he with hea hen hec
    injection hea with hea
    injection hea with heg
    subst heg; subst hec
    refine ⟨cur, hg, ?_⟩
    rw [h3, hen]
    exact Nat.mul_le_mul_right _ h1
set_option maxRecDepth 100000 in
set_option maxHeartbeats 2000000 in
theorem delJ_any (g : Nat) (cap : Value) (p : S33 → Bool) (eg : ∀ args w, (callFunc g args).run Try.prog w = .ok (.enter g args) w) (v : Value) (l : List S33) (w : World) (base : Nat) (ok : Nat → Prop) (hN : Kd.N k33 33 w base ok v l) (hl : l.length ≤ 1000000) (hP : PredS (fun k => v.ownBlock = some k) g #[cap] p l w) :
    Calls Try.prog 50 #[v, .func (.func g) #[] #[cap]] w fun e w' => ∃ v', e = .returned v' ∧ Kd.N k33 33 w' base ok v' (l.filter (fun x => !p x)) ∧ Stp (fun k => v.ownBlock = some k) w w' := by
  by_cases hi : idxP p l = -1
  · obtain ⟨A, c, rfl, hlc, hC⟩ := Kd.N_reads hN
    have hix := indexJ_any g cap p eg A c l w hC hP.predJ
    rw [hi] at hix
    have HIX := Lib.hid hix
    have HF := Lib.hid (idxP_no hi)
    clear hix hi hP eg
    go_enter Try.func50, Try.ntmps50
    go_wp2_with (go_at_call 62; refine (HIX.out).mono ?_; rintro e w2 ⟨rfl, hb⟩)
    go_ret
    exact ⟨_, rfl, by rw [HF.out]; exact Kd.N_below hN hb, Stp.of_below hb⟩
  · obtain ⟨k, hk, hik, hpk, hno⟩ := idxP_first hi
    obtain ⟨G, c, rfl, hbase, hG, _⟩ := Kd.N_form hN (by omega)
    have hC := (Kd.N_reads' hN).2.2
    have hix := indexJ_any g cap p eg _ c l w hC hP.predJ
    rw [hik] at hix
    have HIX := Lib.hid hix
    have HF := Lib.hid (take_filter_all hk hpk hno)
    have HP := Lib.hid hP
    clear hix hik hi hP hno hpk
    go_enter Try.func50, Try.ntmps50
    go_wp2_with (go_at_call 62; refine (HIX.out).mono ?_; rintro e w2 ⟨rfl, hb⟩)
    have hN2 := Kd.N_below hN hb
    have hfr : l.length ≤ 1000000 := hl
    go_loopw [5, 6] (fun vi vj W => ∃ kk jj : Nat, ∃ cur : List S33, vi = .int .i64 kk ∧ vj = .int .i64 jj ∧ kk < jj ∧ jj ≤ l.length ∧ cur.length = l.length ∧ kk = ((l.take jj).filter (fun x => !p x)).length ∧ cur.take kk = (l.take jj).filter (fun x => !p x) ∧ cur.drop jj = l.drop jj ∧ Kd.N k33 33 W base ok (.slice (some ⟨G, 0, none⟩) l.length c) cur ∧ Stp (fun k => (Value.slice (some ⟨G, 0, none⟩) l.length c).ownBlock = some k) w W) (fun vi vj _ => l.length - (intOf vj).toNat)
    case atStart => 
      refine ⟨k, k + 1, l, rfl, by go_num, by omega, by omega, rfl, ?_, ?_, rfl, hN2, Stp.of_below hb⟩
      · rw [HF.out, List.length_take]; omega
      · rw [HF.out]
    case round =>
      obtain ⟨kk, jj, cur, rfl, rfl, hkj, hjl, hcl, hkl, hct, hcd, hNW, hsW⟩ := hrel
      by_cases hlt : jj < l.length
      · have hjc : cur[jj]? = some l[jj] := by
          have h2 := congrArg (fun t => t[0]?) hcd
          simp only [List.getElem?_drop, Nat.add_zero] at h2
          rw [h2, List.getElem?_eq_getElem hlt]
        obtain ⟨cs, hcs, hFK, hcell, hfz⟩ := Kd.N_elem hNW ⟨0, []⟩ (jj : Int) (by omega) (by omega)
        have hgd : cur.getD (jj : Int).toNat ⟨0, []⟩ = l[jj] := by simp [List.getD_eq_getElem?_getD, hjc]
        rw [hgd] at hFK
        obtain ⟨A1, c1, rfl, l1, g1⟩ := k33_openF hFK
        have e0 : wr.cell? ⟨G, jj * 2, none⟩ = some (.int .i64 l[jj].f0) := hcell 0 _ rfl
        have e1 : wr.cell? ⟨G, jj * 2 + 1, none⟩ = some (.slice A1 l[jj].f1.length c1) := hcell 1 _ rfl
        clear hcell hfz hcs hgd hjc
        have hmem : l[jj] ∈ l := List.getElem_mem hlt
        have hsA : Stp (fun k => (Value.slice (some ⟨G, 0, none⟩) l.length c).ownBlock = some k) w (wr.alloc (.cells #[.int .i64 l[jj].f0, .slice A1 l[jj].f1.length c1] 33)) := hsW.alloc _
        have HK := Lib.hid hkl
        have HT := Lib.hid hct
        have HD := Lib.hid hcd
        have HC := Lib.hid hcl
        clear hkl hct hcd hcl
        have hgW : ki.F (wr.alloc (.cells #[.int .i64 l[jj].f0, .slice A1 l[jj].f1.length c1] 33)) (fun k => ok k ∧ k ≠ G) A1 l[jj].f1.length l[jj].f1 := Kd.F_alloc g1 _
        have hNA := Kd.N_alloc hNW (.cells #[.int .i64 l[jj].f0, .slice A1 l[jj].f1.length c1] 33)
        have hbx := World.alloc_heap_new wr (.cells #[.int .i64 l[jj].f0, .slice A1 l[jj].f1.length c1] 33)
        cases hp : p l[jj] with
        | true =>
          have Hp := Lib.hid hp
          clear hp
          go_wp2_with (refine (HP.out _ hsA _ hmem A1 c1 (Kd.F_now hgW)).mono ?_; rintro e w' ⟨he, hb2⟩; rw [Hp.out] at he; subst he)
          refine ⟨?rel0, ?measure⟩
          case rel0 =>
            (repeat apply Exists.intro)
            refine ⟨?_, rfl⟩
            have hq : (fun x => !p x) l[jj] = false := by simp [Hp.out]
            refine ⟨kk, jj + 1, cur, rfl, by go_num, by omega, by omega, HC.out, ?_, ?_, ?_, Kd.N_below hNA hb2, hsA.below hb2⟩
            · rw [take_filter_miss hlt hq]; exact HK.out
            · rw [take_filter_miss hlt hq]; exact HT.out
            · have := congrArg (List.drop 1) HD.out
              simpa [List.drop_drop] using this
          case measure => simp [intOf]; omega
        | false =>
          have Hp := Lib.hid hp
          clear hp
          have hkc : kk < l.length := by omega
          go_wp2_with (first
            | (refine (HP.out _ hsA _ hmem A1 c1 (Kd.F_now hgW)).mono ?_; rintro e w' ⟨he, hb2⟩; rw [Hp.out] at he; subst he; have hb3 := (hb2.block wr.heap.size (by simp)).trans hbx; have x0 : w'.cell? ⟨wr.heap.size, 0, none⟩ = some (.int .i64 l[jj].f0) := (by rw [cell_blk hb3]; rfl); have x1 : w'.cell? ⟨wr.heap.size, 1, none⟩ = some (.slice A1 l[jj].f1.length c1) := (by rw [cell_blk hb3]; rfl); obtain ⟨cs2, hcs2, hFK2, hcell2, hfz2⟩ := Kd.N_elem (Kd.N_below hNA hb2) ⟨0, []⟩ (kk : Int) (by omega) (by omega); have hc2 := Lib.hid hcell2; clear hcell2 hfz2)
            | (refine gate_ (.store 33 (.tmp 33) (.tmp 32)) rfl ?_; refine Kd.N_store k33 (w0 := w') base rfl rfl 33 _ _ rfl 33 (kk : Int) 0 cur l[jj] (.agg #[.int .i64 l[jj].f0, .slice A1 l[jj].f1.length c1]) [.int .i64 l[jj].f0, .slice A1 l[jj].f1.length c1] cs2 ok (fun k => ok k ∧ k ≠ G) rfl (by rw [Int.toNat_natCast]; rfl) rfl rfl sz33 (by intro q hq; simp only [List.mem_cons, List.not_mem_nil, or_false] at hq; rcases hq with rfl | rfl <;> rfl) (Kd.N_below hNA hb2) (by omega) (by omega) hcs2 hc2.out (Nat.le_refl 2) (by (have h2 : cs2.drop 2 = [] := List.drop_eq_nil_of_le (by rw [hcs2]; exact Nat.le_refl 2)); (simp only [List.take_zero, List.nil_append]; show Kd.FK k33 w' _ l[jj] ([.int .i64 l[jj].f0, .slice A1 l[jj].f1.length c1] ++ cs2.drop 2); rw [h2]; exact k33_mkF w' _ l[jj] l1 (Kd.F_below hgW hb2))) (fun k hk => hk) (Below.refl _ _) ?_; intro w4 hN4 hB4 hG4)
            )
          refine ⟨?rel0, ?measure⟩
          case rel0 =>
            (repeat apply Exists.intro)
            refine ⟨?_, rfl⟩
            have hq : (fun x => !p x) l[jj] = true := by simp [Hp.out]
            have hkcur : kk < cur.length := by rw [HC.out]; omega
            refine ⟨kk + 1, jj + 1, cur.set (kk : Int).toNat l[jj], by go_num, by go_num, by omega, by omega, by simp [HC.out], ?_, ?_, ?_, hN4, ?_⟩
            · rw [take_filter_hit hlt hq, List.length_append, List.length_singleton, ← HK.out]
            · rw [Int.toNat_natCast, take_filter_hit hlt hq, set_take hkcur, HT.out]
            · rw [Int.toNat_natCast, set_drop (by omega)]
              have := congrArg (List.drop 1) HD.out
              simpa [List.drop_drop] using this
            · exact (hsA.below hb2).trans (Stp.of_grown hG4) (fun k _ hk => hk)
          case measure => simp [intOf]; omega
      · have hcc := (Kd.N_reads' hNW).2.1
        obtain ⟨cur2, hblk, hbs⟩ := N_block hNW (by decide)
        have hbs2 : kk * 2 + (l.length - kk) * 2 ≤ cur2.size := by
          have : l.length * 2 ≤ cur2.size := hbs
          omega
        have hclr := run_clear_J wr 0 G (kk * 2) (l.length - kk) (c - kk) (by omega) cur2 hblk hbs2
        obtain ⟨cur3, b1, b2, b3, b4⟩ := setCells_blk (Builtin.zeroCells (Value.agg #[.int .i64 0, .slice none 0 0]).cells (l.length - kk)).toList (kk * 2) wr cur2 hblk
        have hjl2 : jj = l.length := by omega
        subst hjl2
        rw [List.take_length] at hkl hct
        have hN4 := N_tail (Kd.N_take hNW (m := kk) (by omega)) b4 (fun cur hc => ⟨cur3, by rw [hblk] at hc; cases hc; exact ⟨b1, b2, fun i hi => b3 i hi⟩⟩)
        rw [hct] at hN4
        have hS4 := hsW.trans b4 (fun k _ hk => by subst hk; rfl)
        clear hkl hct hcd hcl hblk hbs b1 b2 b3 b4
        have hck : ¬ c = kk := by omega
        go_wp2
        go_ret
        exact ⟨_, rfl, hN4, hS4⟩
end Go.Proofs.Ytbmnefdiiibabaa

namespace Go.Proofs.Ytbmnefdiiibabaa
set_option linter.unusedVariables false
set_option linter.unusedSimpArgs false
open Go.RowKit Go.Maps Go.Sort Go.Shelf Go.Proofs.YtbmnefdiiibabaaW.PrintWords Go.Proofs.YtbmnefdiiibabaaW.PrintMore PTruthPlays

theorem reps_ints {R : Int → List Value → Prop} (h : ∀ x, R x [.int .i64 x]) (xs : List Int) : Reps R 1 xs (xs.map (Value.int .i64)) := by
  refine ⟨by simp, fun j p hj => ?_⟩
  have : ((xs.map (Value.int .i64)).drop (j * 1)).take 1 = [.int .i64 p] := by
    rw [Nat.mul_one]
    obtain ⟨hl, rfl⟩ := List.getElem?_eq_some_iff.1 hj
    rw [List.drop_eq_getElem_cons (by simpa using hl)]
    simp
  rw [this]; exact h p

/-- a row of numbers of the call's own -/
theorem own_N {w : World} {base : Nat} {v : Value} {xs : List Int} (h : w.ownsRow base 3 1 v xs.length (xs.map (Value.int .i64))) : Kd.N ki 3 w base (fun i => base ≤ i) v xs :=
  Kd.R_N ⟨fun k hk => own_base h k hk, _, h, reps_ints (R := ki.M w base (fun k => base ≤ k ∧ some k ≠ v.ownBlock)) (fun x => (rfl : [Value.int .i64 x] = [Value.int .i64 x])) xs⟩

theorem facts_N (B M : Nat) (b : List Ent) (w : World) (ok : Nat → Prop) (hB : w.heap[B]? = some (.cells #[.map (some M)] 49 (0, 0))) (hMB : MapB w ok M b) (hlen : b.length < 1000000) :
    Calls Try.prog 8 #[.pointer (some ⟨B, 0, none⟩)] w fun e w' => ∃ A c, e = .returned (.slice A b.length c) ∧ Kd.N ki 3 w' w.heap.size (fun i => w.heap.size ≤ i) (.slice A b.length c) (b.map (·.1)) ∧ Below w.heap.size w w' := by
  refine (facts_any B M b w ok hB hMB hlen).mono ?_
  rintro e w' ⟨v, rfl, hown, hb⟩
  have hN := own_N (xs := b.map (·.1)) (by rw [List.length_map]; exact hown)
  obtain ⟨A, c, rfl⟩ := Kd.N_slice hN
  rw [List.length_map] at hN ⊢
  exact ⟨A, c, rfl, hN, hb⟩

theorem MapB.sorted {w : World} {ok : Nat → Prop} {M : Nat} {b : List Ent} (h : MapB w ok M b) : (b.map (·.1)).Pairwise (· < ·) := by
  obtain ⟨l, hown, hF⟩ := h.ex
  obtain ⟨es, he, hs, _⟩ := hown.canon K47
  injection he with he
  subst he
  exact sorted_rows hF hs
theorem MapB.lt {w : World} {ok : Nat → Prop} {M : Nat} {b : List Ent} (h : MapB w ok M b) : M < w.heap.size := by
  obtain ⟨l, hown, _⟩ := h.ex
  exact hown.lt
theorem MapB.ne {w : World} {ok : Nat → Prop} {M B : Nat} {b : List Ent} (h : MapB w ok M b) {c : Array Value} {t : Nat} (hB : w.heap[B]? = some (.cells c t (0, 0))) : B ≠ M := by
  obtain ⟨l, ⟨es, clock, hb, _⟩, _⟩ := h.ex
  rintro rfl
  rw [hB] at hb
  cases hb

/-! ### a book's entry is written over -/
theorem insE_front {x : Ent} : ∀ {l : List Ent}, (∀ y ∈ l, x.1 < y.1) → insE x l = x :: l
  | [], _ => rfl
  | y :: r, h => by unfold insE; rw [if_pos (h y List.mem_cons_self)]
theorem insE_mid {x : Ent} : ∀ {p l : List Ent}, (∀ y ∈ p, y.1 < x.1) → (∀ y ∈ l, x.1 < y.1) → insE x (p ++ l) = p ++ x :: l
  | [], l, _, h => insE_front h
  | y :: p, l, hp, h => by
    have h1 := hp y List.mem_cons_self
    show insE x (y :: (p ++ l)) = _
    unfold insE
    rw [if_neg (by omega), insE_mid (fun z hz => hp z (List.mem_cons_of_mem _ hz)) h]
    rfl
theorem bput_mid {p l : List Ent} {x : Ent} {v : Bool × List S33} (hs : ((p ++ x :: l).map (·.1)).Pairwise (· < ·)) : bput (p ++ x :: l) x.1 v = p ++ (x.1, v) :: l := by
  rw [List.map_append, List.map_cons, List.pairwise_append] at hs
  obtain ⟨h1, h2, h3⟩ := hs
  rw [List.pairwise_cons] at h2
  have hp : ∀ y ∈ p, y.1 < x.1 := fun y hy => h3 y.1 (List.mem_map_of_mem hy) x.1 List.mem_cons_self
  have hl : ∀ y ∈ l, x.1 < y.1 := fun y hy => h2.1 y.1 (List.mem_map_of_mem hy)
  unfold bput
  have hd : bdel (p ++ x :: l) x.1 = p ++ l := by
    unfold bdel
    rw [List.filter_append, List.filter_cons]
    have e1 : p.filter (fun y => !(y.1 == x.1)) = p := List.filter_eq_self.2 (fun y hy => by have := hp y hy; simp; omega)
    have e2 : l.filter (fun y => !(y.1 == x.1)) = l := List.filter_eq_self.2 (fun y hy => by have := hl y hy; simp; omega)
    rw [e1, e2]; simp
  rw [hd, insE_mid (x := (x.1, v)) hp hl]
theorem bfind_mid {p l : List Ent} {x : Ent} (hs : ((p ++ x :: l).map (·.1)).Pairwise (· < ·)) : bfind (p ++ x :: l) x.1 = some x.2 := by
  rw [List.map_append, List.map_cons, List.pairwise_append] at hs
  obtain ⟨h1, h2, h3⟩ := hs
  have hp : ∀ y ∈ p, y.1 < x.1 := fun y hy => h3 y.1 (List.mem_map_of_mem hy) x.1 List.mem_cons_self
  unfold bfind
  rw [List.find?_append, List.find?_eq_none.2 (fun y hy => by have := hp y hy; simp; omega)]
  simp

/-! ### Withdraw, plainly -/
def wd1 (j : S33) (x : Ent) : Ent := (x.1, x.2.1, x.2.2.filter (fun y => !jeq y j))
def whit (j : S33) (x : Ent) : Bool := x.2.2.any (fun y => jeq y j)
def bwd (b : List Ent) (j : S33) : List Ent := b.map (wd1 j)
def bout (b : List Ent) (j : S33) : List Int := (b.filter (whit j)).map (·.1)
def wcur (b : List Ent) (j : S33) (k : Nat) : List Ent := (b.take k).map (wd1 j) ++ b.drop k
theorem wcur_keys (b : List Ent) (j : S33) (k : Nat) : (wcur b j k).map (·.1) = b.map (·.1) := by
  unfold wcur
  rw [List.map_append, List.map_map]
  have : ((fun x : Ent => x.1) ∘ wd1 j) = (fun x : Ent => x.1) := rfl
  rw [this, ← List.map_append, List.take_append_drop]
theorem wcur_at {b : List Ent} {j : S33} {k : Nat} (hk : k < b.length) : wcur b j k = (b.take k).map (wd1 j) ++ b[k] :: b.drop (k + 1) := by
  unfold wcur
  rw [List.drop_eq_getElem_cons hk]
theorem wcur_next {b : List Ent} {j : S33} {k : Nat} (hk : k < b.length) : wcur b j (k + 1) = (b.take k).map (wd1 j) ++ wd1 j b[k] :: b.drop (k + 1) := by
  unfold wcur
  rw [List.take_succ_eq_append_getElem hk, List.map_append, List.map_singleton, List.append_assoc]; rfl
theorem wcur_put {b : List Ent} {j : S33} {k : Nat} (hk : k < b.length) (hs : (b.map (·.1)).Pairwise (· < ·)) : bput (wcur b j k) b[k].1 (b[k].2.1, b[k].2.2.filter (fun y => !jeq y j)) = wcur b j (k + 1) := by
  have h := wcur_keys b j k
  rw [← h, wcur_at hk] at hs
  rw [wcur_at hk, bput_mid hs, wcur_next hk]; rfl
theorem wcur_get {b : List Ent} {j : S33} {k : Nat} (hk : k < b.length) (hs : (b.map (·.1)).Pairwise (· < ·)) : bget (wcur b j k) b[k].1 = b[k].2 := by
  have h := wcur_keys b j k
  rw [← h, wcur_at hk] at hs
  unfold bget
  rw [wcur_at hk, bfind_mid hs]; rfl
theorem wcur_len (b : List Ent) (j : S33) (k : Nat) : (wcur b j k).length = b.length := by
  have := congrArg List.length (wcur_keys b j k)
  simpa using this
theorem filter_lt {α : Type} (p : α → Bool) (l : List α) : ((l.filter (fun x => !p x)).length < l.length) ↔ l.any p = true := by
  constructor
  · intro h
    rw [Bool.eq_false_or_eq_true (l.any p) |>.elim (fun h => h) (fun h0 => ?_)]
    rw [List.any_eq_false] at h0
    rw [List.filter_eq_self.2 (fun x hx => by simpa using h0 x hx)] at h
    omega
  · intro h
    obtain ⟨x, hx, hp⟩ := List.any_eq_true.1 h
    exact List.length_filter_lt_length_iff_exists.2 ⟨x, hx, by simp [hp]⟩
end Go.Proofs.Ytbmnefdiiibabaa
