import Derived.Test.YtbmnefdiiibabaaTQ
namespace Go.Proofs.Ytbmnefdiiibabaa
set_option linter.unusedVariables false
set_option linter.unusedSimpArgs false
open Go.RowKit Go.Maps Go.Sort Go.Shelf Go.Proofs.YtbmnefdiiibabaaW.PrintWords Go.Proofs.YtbmnefdiiibabaaW.PrintMore PTruthPlays

theorem zero63 (w : World) : (zeroValue 63).run Try.prog w = .ok (.agg #[]) w := by kernel_rfl
/-- a map's keys are a set -/
structure SetB (W : World) (I n : Nat) (s : Int → Bool) : Prop where
  ex : ∃ D : DataW Value, W.ownsMap Try.prog 3 unitElem I n D ∧ ∀ k, i64r k → Maps.has D (.int .i64 k) = s k
theorem SetB.lt {W : World} {I n : Nat} {s : Int → Bool} (h : SetB W I n s) : I < W.heap.size := by
  obtain ⟨D, hown, _⟩ := h.ex
  exact hown.lt
theorem SetB.step {W W1 : World} {I n : Nat} {s : Int → Bool} (h : SetB W I n s) (hI : W1.heap[I]? = W.heap[I]?) : SetB W1 I n s := by
  obtain ⟨D, ⟨es, clock, hb, r⟩, hk⟩ := h.ex
  exact ⟨D, ⟨es, clock, hI.trans hb, r⟩, hk⟩

/-- a tuple's ids are all among those that are held -/
def allIn (s : Int → Bool) (t : List Int) : Bool := t.all s

theorem allIn_miss {s : Int → Bool} {t : List Int} {k : Nat} (hk : k < t.length) (h : s t[k] = false) : allIn s t = false := by
  unfold allIn
  rw [List.all_eq_false]
  exact ⟨t[k], List.getElem_mem hk, by simp [h]⟩
theorem allIn_hit {s : Int → Bool} {t : List Int} (h : ∀ k (hk : k < t.length), s t[k] = true) : allIn s t = true := by
  unfold allIn
  rw [List.all_eq_true]
  intro x hx
  obtain ⟨k, hk, rfl⟩ := List.getElem_of_mem hx
  exact h k hk

set_option maxRecDepth 100000 in
set_option maxHeartbeats 1000000 in
theorem held1_any (x : S33) (A : Option Addr) (c I2 I n : Nat) (s : Int → Bool) (w : World) (hI2 : w.cell? ⟨I2, 0, none⟩ = some (.map (some I))) (hS : SetB w I n s) (hx : ki.C w A x.f1.length x.f1) (hr : ∀ y ∈ x.f1, i64r y) :
    Calls Try.prog 57 #[.agg #[.int .i64 x.f0, .slice A x.f1.length c], .pointer (some ⟨I2, 0, none⟩)] w fun e w' => e = .returned (.bool (allIn s x.f1)) ∧ Below w.heap.size w w' := by
  have hmax := C_max hx
  have hI2l := World.block_lt_of_cell? w _ hI2
  obtain ⟨w1, hw1⟩ : ∃ w1, w1 = w.alloc (.cells #[.int .i64 x.f0, .slice A x.f1.length c] 33) := ⟨_, rfl⟩
  have hb1 : Below w.heap.size w w1 := by rw [hw1]; exact (Below.refl _ _).alloc (Nat.le_refl _) _
  have HX := Lib.hid hx
  have HW := Lib.hid hw1
  have HI := Lib.hid hI2
  clear hx hw1 hI2
  go_enter Try.func57, Try.ntmps57
  go_wp2_with fail
  rw [← HW.out]
  go_loopw [11] (fun i W => ∃ k : Nat, k ≤ x.f1.length ∧ i = .int .i64 k ∧ (∀ j (hj : j < k) (hk : j < x.f1.length), s x.f1[j] = true) ∧ Below w.heap.size w W) (fun i _ => x.f1.length - (intOf i).toNat)
  case atStart => exact ⟨0, Nat.zero_le _, rfl, fun j hj => by omega, hb1⟩
  case round =>
    obtain ⟨k, hk, rfl, hall, hb⟩ := hrel
    by_cases hlt : k < x.f1.length
    · obtain ⟨ab, ao, rfl, habl, hcs⟩ := C_addr (Kd.C_below HX.out hb) (by omega)
      have e1 := hcs k hlt
      have g1 : x.f1.getD k 0 = x.f1[k] := by simp [List.getD_eq_getElem?_getD, hlt]
      rw [g1] at e1
      clear hcs g1
      have c2 : wr.cell? ⟨I2, 0, none⟩ = some (.map (some I)) := (hb.cell (p := ⟨I2, 0, none⟩) hI2l).trans HI.out
      obtain ⟨D, hown, hD⟩ := (hS.step (hb.block I hS.lt)).ex
      have hkr := hr _ (List.getElem_mem hlt)
      have hkey := key64 hkr
      have hhas := hD _ hkr
      cases hs : s x.f1[k] with
      | true =>
        rw [hs] at hhas
        have Hs := Lib.hid hs
        clear hs
        go_wp2_with (at_lookup; refine wpList_lookup_own_unit _ rfl _ _ 58 rfl 3 63 K47 Try.underlying58 (zero63 _) I n D rfl hown _ _ rfl hkey ?_; rw [hhas])
        refine ⟨?rel0, ?measure⟩
        case rel0 =>
          refine ⟨k + 1, by omega, by go_num, fun j hj hjl => ?_, hb.alloc hb.size _⟩
          by_cases e : j = k
          · subst e; exact Hs.out
          · exact hall j (by omega) hjl
        case measure => simp [intOf]; omega
      | false =>
        rw [hs] at hhas
        have Hs := Lib.hid (allIn_miss hlt hs)
        clear hs
        go_wp2_with (at_lookup; refine wpList_lookup_own_unit _ rfl _ _ 58 rfl 3 63 K47 Try.underlying58 (zero63 _) I n D rfl hown _ _ rfl hkey ?_; rw [hhas])
        go_ret
        exact ⟨by rw [Hs.out]; rfl, hb.alloc hb.size _⟩
    · have HA := Lib.hid (allIn_hit (s := s) (t := x.f1) (fun j hj => hall j (by omega) hj))
      go_wp2
      go_ret
      exact ⟨by rw [HA.out]; rfl, hb⟩
theorem enters57 (args : Array Value) (w : World) : (callFunc 57 args).run Try.prog w = .ok (.enter 57 args) w := enters_of Try.func57 (by kernel_rfl) rfl args w
end Go.Proofs.Ytbmnefdiiibabaa

namespace Go.Proofs.Ytbmnefdiiibabaa
set_option linter.unusedVariables false
set_option linter.unusedSimpArgs false
open Go.RowKit Go.Maps Go.Sort Go.Shelf Go.Proofs.YtbmnefdiiibabaaW.PrintWords Go.Proofs.YtbmnefdiiibabaaW.PrintMore PTruthPlays

/-- does a support hold? -/
def heldE (s : Int → Bool) (x : Bool × List S33) : Bool := x.1 || x.2.any (fun y => allIn s y.f1)

set_option maxRecDepth 100000 in
set_option maxHeartbeats 1000000 in
theorem held_any (x : Bool × List S33) (A : Option Addr) (c I n : Nat) (s : Int → Bool) (w : World) (hS : SetB w I n s) (hx : k33.C w A x.2.length x.2) (hr : ∀ j ∈ x.2, ∀ y ∈ j.f1, i64r y) :
    Calls Try.prog 34 #[.agg #[.bool x.1, .slice A x.2.length c], .map (some I)] w fun e w' => e = .returned (.bool (heldE s x)) ∧ Below w.heap.size w w' := by
  obtain ⟨w2, hw2⟩ : ∃ w2, w2 = (w.alloc (.cells #[.bool x.1, .slice A x.2.length c] 57)).alloc (.cells #[.map (some I)] 58) := ⟨_, rfl⟩
  have hb2 : Below w.heap.size w w2 := by rw [hw2]; exact ((Below.refl _ _).alloc (Nat.le_refl _) _).alloc (by simp) _
  have h2 : w2.heap[w.heap.size]? = some (.cells #[.bool x.1, .slice A x.2.length c] 57) := by rw [hw2]; exact heap_alloc_lt _ _ (World.alloc_heap_new w _)
  have h3 : w2.heap[w.heap.size + 1]? = some (.cells #[.map (some I)] 58) := by
    rw [hw2]
    have := World.alloc_heap_new (w.alloc (.cells #[.bool x.1, .slice A x.2.length c] 57)) (.cells #[.map (some I)] 58)
    simpa using this
  have c0 : w2.cell? ⟨w.heap.size, 0, none⟩ = some (.bool x.1) := by rw [cell_blk h2]; rfl
  have c1 : w2.cell? ⟨w.heap.size, 1, none⟩ = some (.slice A x.2.length c) := by rw [cell_blk h2]; rfl
  have c3 : w2.cell? ⟨w.heap.size + 1, 0, none⟩ = some (.map (some I)) := by rw [cell_blk h3]; rfl
  have hl3 := blk_lt' h3
  have hS2 := hS.step (hb2.block I hS.lt)
  have hp : PredJ 57 #[.pointer (some ⟨w.heap.size + 1, 0, none⟩)] (fun y => allIn s y.f1) x.2 w2 := fun W hW y hy A' c' hC =>
    (held1_any y A' c' (w.heap.size + 1) I n s W ((hW.cell (p := ⟨w.heap.size + 1, 0, none⟩) hl3).trans c3) (hS2.step (hW.block I hS2.lt)) hC (hr y hy)).mono fun _ _ h => h
  have hcon := containsJ_any 57 (.pointer (some ⟨w.heap.size + 1, 0, none⟩)) (fun y => allIn s y.f1) enters57 A c x.2 w2 (Kd.C_below hx hb2) hp
  have HCON := Lib.hid hcon
  have HW := Lib.hid hw2
  clear hcon hw2 h2 h3 hx hp
  cases hpl : x.1 with
  | true =>
    rw [hpl] at c0 HW
    have HP := Lib.hid hpl
    clear hpl
    go_enter Try.func34, Try.ntmps34
    go_wp2_with fail
    go_ret
    refine ⟨by unfold heldE; rw [HP.out]; rfl, ?_⟩
    rw [← HW.out]; exact hb2
  | false =>
    rw [hpl] at c0 HW
    have HP := Lib.hid hpl
    clear hpl
    go_enter Try.func34, Try.ntmps34
    go_wp2_with (go_at_call 45; rw [← HW.out]; refine (HCON.out).mono ?_; rintro e w' ⟨rfl, hb⟩)
    go_ret
    refine ⟨by unfold heldE; rw [HP.out, Bool.false_or]; rfl, hb2.trans (hb.mono hb2.size)⟩

set_option maxRecDepth 100000 in
set_option maxHeartbeats 1000000 in
theorem lost1_any (B M P1 P2 I n : Nat) (b : List Ent) (s : Int → Bool) (w : World) (ok : Nat → Prop) (k : Int) (hk : i64r k) (hB : w.heap[B]? = some (.cells #[.map (some M)] 49 (0, 0))) (hMB : MapB w ok M b)
    (h1 : w.cell? ⟨P1, 0, none⟩ = some (.pointer (some ⟨B, 0, none⟩))) (h2 : w.cell? ⟨P2, 0, none⟩ = some (.map (some I))) (hS : SetB w I n s) (hr : ∀ j ∈ (bget b k).2, ∀ y ∈ j.f1, i64r y) :
    Calls Try.prog 33 #[.int .i64 k, .pointer (some ⟨P1, 0, none⟩), .pointer (some ⟨P2, 0, none⟩)] w fun e w' => e = .returned (.bool (heldE s (bget b k))) ∧ Below w.heap.size w w' := by
  obtain ⟨v, hv, hrun⟩ := hMB.look hk
  obtain ⟨A, c, rfl, hcl, hF⟩ := hv
  obtain ⟨w1, hw1⟩ : ∃ w1, w1 = w.drew := ⟨_, rfl⟩
  have hb1 : Below w.heap.size w w1 := by rw [hw1]; exact (Below.refl _ _).drew
  have cB : w1.cell? ⟨B, 0, none⟩ = some (.map (some M)) := by rw [hw1]; show w.cell? _ = _; rw [cell_blk hB]; rfl
  have c1 : w1.cell? ⟨P1, 0, none⟩ = some (.pointer (some ⟨B, 0, none⟩)) := by rw [hw1]; exact h1
  have c2 : w1.cell? ⟨P2, 0, none⟩ = some (.map (some I)) := by rw [hw1]; exact h2
  have hl := hrun w1 (by rw [hw1]; rfl)
  have hh := held_any (bget b k) A c I n s w1 (hS.step (by rw [hw1]; rfl)) (Kd.C_below (Kd.F_now hF) hb1) hr
  have HH := Lib.hid hh
  clear hh hrun hF
  go_enter Try.func33, Try.ntmps33
  go_wp2_with fail
  refine wp_region_still_tail 7 (by kernel_rfl) (by kernel_rfl) ?_
  change wpStill _ _ w.drew (fun a' => wpList _ _ _ _ a' w.drew) _ _
  rw [← hw1]
  have HW := Lib.hid hw1
  clear hw1
  simp only [List.take_succ_cons, List.take_zero, List.drop_succ_cons, List.drop_zero]
  repeat still_step
  refine wpStill_nil ?_
  go_wp2_with (go_at_call 34; refine (HH.out).mono ?_; rintro e w' ⟨rfl, hb⟩)
  go_ret
  exact ⟨rfl, hb1.trans (hb.mono hb1.size)⟩
theorem enters33 (args : Array Value) (w : World) : (callFunc 33 args).run Try.prog w = .ok (.enter 33 args) w := enters_of Try.func33 (by kernel_rfl) rfl args w
end Go.Proofs.Ytbmnefdiiibabaa

namespace Go.Proofs.Ytbmnefdiiibabaa
set_option linter.unusedVariables false
set_option linter.unusedSimpArgs false
open Go.RowKit Go.Maps Go.Sort Go.Shelf Go.Proofs.YtbmnefdiiibabaaW.PrintWords Go.Proofs.YtbmnefdiiibabaaW.PrintMore PTruthPlays

/-- a predicate on ids, with what it has captured, while the blocks of S are written -/
def PredI (S : Nat → Prop) (g : Nat) (lb : Array Value) (p : Int → Bool) (l : List Int) (w : World) : Prop :=
  ∀ W, Stp S w W → ∀ x ∈ l, Calls Try.prog g (#[.int .i64 x] ++ lb) W fun e W' => e = .returned (.bool (p x)) ∧ Below W.heap.size W W'

set_option maxRecDepth 100000 in
set_option maxHeartbeats 1000000 in
theorem indexI_any (S : Nat → Prop) (g : Nat) (k1 k2 : Value) (p : Int → Bool) (eg : ∀ args w, (callFunc g args).run Try.prog w = .ok (.enter g args) w) (A : Option Addr) (c : Nat) (l : List Int) (w : World) (hl : ki.C w A l.length l) (hP : PredI S g #[k1, k2] p l w) :
    Calls Try.prog 56 #[.slice A l.length c, .func (.func g) #[] #[k1, k2]] w fun e w' => e = .returned (.int .i64 (idxP p l)) ∧ Below w.heap.size w w' := by
  have hmax := C_max hl
  have HL := Lib.hid hl
  have HP := Lib.hid hP
  clear hl hP
  go_enter Try.func56, Try.ntmps56
  go_wp2
  go_loopw [8] (fun i W => ∃ k : Nat, k ≤ l.length ∧ i = .int .i64 k ∧ (∀ j (hj : j < k) (hk : j < l.length), p l[j] = false) ∧ Below w.heap.size w W) (fun i _ => l.length - (intOf i).toNat)
  case atStart => exact ⟨0, Nat.zero_le _, rfl, fun j hj => by omega, Below.refl _ _⟩
  case round =>
    obtain ⟨k, hk, rfl, hno, hb⟩ := hrel
    by_cases hlt : k < l.length
    · obtain ⟨b, o, rfl, hbl, hcs⟩ := C_addr (Kd.C_below HL.out hb) (by omega)
      have e0 := hcs k hlt
      have g1 : l.getD k 0 = l[k] := by simp [List.getD_eq_getElem?_getD, hlt]
      rw [g1] at e0
      clear hcs g1
      have hmem : l[k] ∈ l := List.getElem_mem hlt
      cases hp : p l[k] with
      | true =>
        have Hp := Lib.hid hp
        clear hp
        go_wp2_with (refine (HP.out _ (Stp.of_below hb) _ hmem).mono ?_; rintro e w' ⟨he, hb2⟩; rw [Hp.out] at he; subst he)
        go_ret
        exact ⟨by rw [idxP_hit hlt Hp.out (fun j hj => hno j hj (by omega))]; rfl, hb.trans (hb2.mono hb.size)⟩
      | false =>
        have Hp := Lib.hid hp
        clear hp
        go_wp2_with (refine (HP.out _ (Stp.of_below hb) _ hmem).mono ?_; rintro e w' ⟨he, hb2⟩; rw [Hp.out] at he; subst he)
        refine ⟨?rel0, ?measure⟩
        case rel0 =>
          refine ⟨k + 1, by omega, by go_num, fun j hj hjl => ?_, hb.trans (hb2.mono hb.size)⟩
          by_cases e : j = k
          · subst e; exact Hp.out
          · exact hno j (by omega) hjl
        case measure => simp [intOf]; omega
    · go_wp2
      go_ret
      exact ⟨by rw [idxP_none (fun j hj => hno j (by omega) hj)]; rfl, hb⟩

theorem zero3 (w : World) : (zeroValue 3).run Try.prog w = .ok (.int .i64 0) w := by kernel_rfl
theorem sz3 : (Try.prog.info? 3).map (·.size) = some [Value.int .i64 0].length := by kernel_rfl

set_option maxRecDepth 100000 in
set_option maxHeartbeats 2000000 in
theorem delI_any (g : Nat) (k1 k2 : Value) (p : Int → Bool) (eg : ∀ args w, (callFunc g args).run Try.prog w = .ok (.enter g args) w) (v : Value) (l : List Int) (w : World) (base : Nat) (ok : Nat → Prop) (hN : Kd.N ki 3 w base ok v l) (hl : l.length ≤ 1000000) (hP : PredI (fun k => v.ownBlock = some k) g #[k1, k2] p l w) :
    Calls Try.prog 31 #[v, .func (.func g) #[] #[k1, k2]] w fun e w' => ∃ v', e = .returned v' ∧ Kd.N ki 3 w' base ok v' (l.filter (fun x => !p x)) ∧ Stp (fun k => v.ownBlock = some k) w w' := by
  by_cases hi : idxP p l = -1
  · obtain ⟨A, c, rfl, hlc, hC⟩ := Kd.N_reads hN
    have hix := indexI_any _ g k1 k2 p eg A c l w hC hP
    rw [hi] at hix
    have HIX := Lib.hid hix
    have HF := Lib.hid (idxP_no hi)
    clear hix hi hP eg
    go_enter Try.func31, Try.ntmps31
    go_wp2_with (go_at_call 56; refine (HIX.out).mono ?_; rintro e w2 ⟨rfl, hb⟩)
    go_ret
    exact ⟨_, rfl, by rw [HF.out]; exact Kd.N_below hN hb, Stp.of_below hb⟩
  · obtain ⟨k, hk, hik, hpk, hno⟩ := idxP_first hi
    obtain ⟨G, c, rfl, hbase, hG, _⟩ := Kd.N_form hN (by omega)
    have hC := (Kd.N_reads' hN).2.2
    have hix := indexI_any _ g k1 k2 p eg _ c l w hC hP
    rw [hik] at hix
    have HIX := Lib.hid hix
    have HF := Lib.hid (take_filter_all hk hpk hno)
    have HP := Lib.hid hP
    clear hix hik hi hP hno hpk
    go_enter Try.func31, Try.ntmps31
    go_wp2_with (go_at_call 56; refine (HIX.out).mono ?_; rintro e w2 ⟨rfl, hb⟩)
    have hN2 := Kd.N_below hN hb
    have hfr : l.length ≤ 1000000 := hl
    go_loopw [5, 6] (fun vi vj W => ∃ kk jj : Nat, ∃ cur : List Int, vi = .int .i64 kk ∧ vj = .int .i64 jj ∧ kk < jj ∧ jj ≤ l.length ∧ cur.length = l.length ∧ kk = ((l.take jj).filter (fun x => !p x)).length ∧ cur.take kk = (l.take jj).filter (fun x => !p x) ∧ cur.drop jj = l.drop jj ∧ Kd.N ki 3 W base ok (.slice (some ⟨G, 0, none⟩) l.length c) cur ∧ Stp (fun k => (Value.slice (some ⟨G, 0, none⟩) l.length c).ownBlock = some k) w W) (fun vi vj _ => l.length - (intOf vj).toNat)
    case atStart =>
      refine ⟨k, k + 1, l, rfl, by go_num, by omega, by omega, rfl, ?_, ?_, rfl, hN2, Stp.of_below hb⟩
      · rw [HF.out, List.length_take]; omega
      · rw [HF.out]
    case round =>
      obtain ⟨kk, jj, cur, rfl, rfl, hkj, hjl, hcl, hkl, hct, hcd, hNW, hsW⟩ := hrel
      by_cases hlt : jj < l.length
      · have hjc : cur[jj]? = some l[jj] := by
          have h2 := congrArg (fun t => t[0]?) hcd
          simp only [List.getElem?_drop, Nat.add_zero] at h2
          rw [h2, List.getElem?_eq_getElem hlt]
        obtain ⟨cs, hcs, hFK, hcell, hfz⟩ := Kd.N_elem hNW 0 (jj : Int) (by omega) (by omega)
        have hgd : cur.getD (jj : Int).toNat 0 = l[jj] := by simp [List.getD_eq_getElem?_getD, hjc]
        rw [hgd] at hFK
        have hcs1 : cs = [.int .i64 l[jj]] := Kd.FK_now hFK
        subst hcs1
        have e0 : wr.cell? ⟨G, jj, none⟩ = some (.int .i64 l[jj]) := by
          have h3 : wr.cell? ⟨G, jj * 1 + 0, none⟩ = some (.int .i64 l[jj]) := hcell 0 _ rfl
          rwa [Nat.mul_one, Nat.add_zero] at h3
        clear hcell hfz hcs hgd hjc
        have hmem : l[jj] ∈ l := List.getElem_mem hlt
        have HK := Lib.hid hkl
        have HT := Lib.hid hct
        have HD := Lib.hid hcd
        have HC := Lib.hid hcl
        clear hkl hct hcd hcl
        cases hp : p l[jj] with
        | true =>
          have Hp := Lib.hid hp
          clear hp
          go_wp2_with (refine (HP.out _ hsW _ hmem).mono ?_; rintro e w' ⟨he, hb2⟩; rw [Hp.out] at he; subst he)
          refine ⟨?rel0, ?measure⟩
          case rel0 =>
            (repeat apply Exists.intro)
            refine ⟨?_, rfl⟩
            have hq : (fun x => !p x) l[jj] = false := by simp [Hp.out]
            refine ⟨kk, jj + 1, cur, rfl, by go_num, by omega, by omega, HC.out, ?_, ?_, ?_, Kd.N_below hNW hb2, hsW.below hb2⟩
            · rw [take_filter_miss hlt hq]; exact HK.out
            · rw [take_filter_miss hlt hq]; exact HT.out
            · have := congrArg (List.drop 1) HD.out
              simpa [List.drop_drop] using this
          case measure => simp [intOf]; omega
        | false =>
          have Hp := Lib.hid hp
          clear hp
          have hkc : kk < l.length := by omega
          go_wp2_with (first
            | (refine (HP.out _ hsW _ hmem).mono ?_; rintro e w' ⟨he, hb2⟩; rw [Hp.out] at he; subst he; obtain ⟨cs2, hcs2, hFK2, hcell2, hfz2⟩ := Kd.N_elem (Kd.N_below hNW hb2) 0 (kk : Int) (by omega) (by omega); have hc2 := Lib.hid hcell2; clear hcell2 hfz2)
            | (refine gate_ (.store 3 (.tmp 33) (.tmp 32)) rfl ?_; refine Kd.N_store ki (w0 := w') base rfl rfl 3 _ _ rfl 3 (kk : Int) 0 cur l[jj] (.int .i64 l[jj]) [.int .i64 l[jj]] cs2 ok (fun k => ok k ∧ k ≠ G) rfl (by rw [Int.toNat_natCast]; show kk = kk * 1 + 0; omega) rfl rfl sz3 (by intro q hq; simp only [List.mem_cons, List.not_mem_nil, or_false] at hq; subst hq; rfl) (Kd.N_below hNW hb2) (by omega) (by omega) hcs2 hc2.out (Nat.le_refl 1) (by (have h2 : cs2.drop 1 = [] := List.drop_eq_nil_of_le (by rw [hcs2]; exact Nat.le_refl 1)); (simp only [List.take_zero, List.nil_append]; show Kd.FK ki w' _ l[jj] ([.int .i64 l[jj]] ++ cs2.drop 1); rw [h2]; exact fun W' _ => (rfl : [Value.int .i64 l[jj]] = [Value.int .i64 l[jj]]))) (fun k hk => hk) (Below.refl _ _) ?_; intro w4 hN4 hB4 hG4)
            )
          refine ⟨?rel0, ?measure⟩
          case rel0 =>
            (repeat apply Exists.intro)
            refine ⟨?_, rfl⟩
            have hq : (fun x => !p x) l[jj] = true := by simp [Hp.out]
            have hkcur : kk < cur.length := by rw [HC.out]; omega
            refine ⟨kk + 1, jj + 1, cur.set (kk : Int).toNat l[jj], by go_num, by go_num, by omega, by omega, by simp [HC.out], ?_, ?_, ?_, hN4, ?_⟩
            · rw [take_filter_hit hlt hq, List.length_append, List.length_singleton, ← HK.out]
            · rw [Int.toNat_natCast, take_filter_hit hlt hq, set_take hkcur, HT.out]
            · rw [Int.toNat_natCast, set_drop (by omega)]
              have := congrArg (List.drop 1) HD.out
              simpa [List.drop_drop] using this
            · exact (hsW.below hb2).trans (Stp.of_grown hG4) (fun k _ hk => hk)
          case measure => simp [intOf]; omega
      · have hcc := (Kd.N_reads' hNW).2.1
        obtain ⟨cur2, hblk, hbs⟩ := N_block hNW (by decide)
        have hbs2 : l.length ≤ cur2.size := by
          have : l.length * 1 ≤ cur2.size := hbs
          omega
        have hclr : ∀ ty, (Builtin.clear_ #[31] ty #[.slice (some ⟨G, kk, none⟩) (l.length - kk) (c - kk)]).run Try.prog wr = .ok (.tuple #[]) (wr.setCells G kk (List.replicate (l.length - kk) (.int .i64 0))) := fun ty =>
          Lib.run_clear_slice wr 31 3 ty (.int .i64 0) Try.underlying31 zero3 rfl rfl G kk (l.length - kk) (c - kk) (by omega) (fun j hj => by rw [cell_blk hblk]; simp; omega) (fun j hj => blk_frozen hblk _)
        obtain ⟨cur3, b1, b2, b3, b4⟩ := setCells_blk (List.replicate (l.length - kk) (Value.int .i64 0)) kk wr cur2 hblk
        have hjl2 : jj = l.length := by omega
        subst hjl2
        rw [List.take_length] at hkl hct
        have hN4 := N_tail (Kd.N_take hNW (m := kk) (by omega)) b4 (fun cur hc => ⟨cur3, by rw [hblk] at hc; cases hc; exact ⟨b1, b2, fun i hi => b3 i (by have : i < kk * 1 := hi; omega)⟩⟩)
        rw [hct] at hN4
        have hS4 := hsW.trans b4 (fun k _ hk => by subst hk; rfl)
        clear hkl hct hcd hcl hblk hbs b1 b2 b3 b4
        have hck : ¬ c = kk := by omega
        go_wp2
        go_ret
        exact ⟨_, rfl, hN4, hS4⟩
end Go.Proofs.Ytbmnefdiiibabaa

namespace Go.Proofs.Ytbmnefdiiibabaa
set_option linter.unusedVariables false
set_option linter.unusedSimpArgs false
open Go.RowKit Go.Maps Go.Sort Go.Shelf Go.Proofs.YtbmnefdiiibabaaW.PrintWords Go.Proofs.YtbmnefdiiibabaaW.PrintMore PTruthPlays

def lostRest (b : List Ent) (s : Int → Bool) (left : List Int) : List Int := left.filter (fun id => !heldE s (bget b id))
def lostSet (s : Int → Bool) (left rest : List Int) : Int → Bool := fun x => s x || (left.contains x && !rest.contains x)
theorem lostRest_le (b : List Ent) (s : Int → Bool) (left : List Int) : (lostRest b s left).length ≤ left.length := List.length_filter_le _ _
/-- what nothing holds up -/
def lostL (b : List Ent) (s : Int → Bool) (left : List Int) : List Int :=
  if h : (lostRest b s left).length = left.length then left else lostL b (lostSet s left (lostRest b s left)) (lostRest b s left)
termination_by left.length
decreasing_by have := lostRest_le b s left; omega

theorem lostL_end {b : List Ent} {s : Int → Bool} {left : List Int} (h : (lostRest b s left).length = left.length) : lostL b s left = left := by
  rw [lostL, dif_pos h]
theorem lostL_next {b : List Ent} {s : Int → Bool} {left : List Int} (h : ¬ (lostRest b s left).length = left.length) : lostL b s left = lostL b (lostSet s left (lostRest b s left)) (lostRest b s left) := by
  rw [lostL, dif_neg h]

def sliceLen : Value → Nat
  | .slice _ n _ => n
  | _ => 0

theorem contains_any (A : Option Addr) (c : Nat) (l : List Int) (x : Int) (w : World) (hl : ki.C w A l.length l) : Calls Try.prog 35 #[.slice A l.length c, .int .i64 x] w fun e w' => e = .returned (.bool (l.contains x)) ∧ w' = w := by
  have hmax := C_max hl
  by_cases h0 : l.length = 0
  · have e : l = [] := List.eq_nil_of_length_eq_zero h0
    subst e
    exact Try.slices_Contains_int_empty A c x w
  · obtain ⟨b, o, rfl, _, hc⟩ := C_addr hl (by omega)
    have := Try.slices_Contains_int b o l.length c l x w (Nat.le_refl _) hmax hc
    rwa [List.take_length] at this

theorem SetB.put {W w1 : World} {I n : Nat} {s s' : Int → Bool} {k : Int} (hk : i64r k) {D : DataW Value} (hown : W.ownsMap Try.prog 3 unitElem I n D) (hD : ∀ k, i64r k → Maps.has D (.int .i64 k) = s k)
    (h1 : w1.ownsMap Try.prog 3 unitElem I (n + 1) (D.put (.int .i64 k) (.agg []))) (hs : ∀ x, i64r x → s' x = if x = k then true else s x) : SetB w1 I (n + 1) s' := by
  refine ⟨_, h1, fun x hx => ?_⟩
  rw [hs x hx]
  split
  · rename_i e; subst e
    exact Maps.has_put_same hown.isMap (show WideAt.IsKeyLit (.int .i64 x) from trivial) _
  · rename_i e
    rw [Maps.has_put_other (fun h => e (by injection h))]
    exact hD x hx
theorem lostSet_nil (s : Int → Bool) (rest : List Int) : lostSet s [] rest = s := by
  funext x; simp [lostSet]
theorem contains_take {l : List Int} {j : Nat} (hj : j < l.length) (x : Int) : (l.take (j + 1)).contains x = ((l.take j).contains x || x == l[j]) := by
  rw [List.take_succ_eq_append_getElem hj, List.contains_append, Bool.eq_iff_iff]
  simp
theorem lostSet_hit {s : Int → Bool} {left rest : List Int} {j : Nat} (hj : j < left.length) (h : rest.contains left[j] = true) : lostSet s (left.take (j + 1)) rest = lostSet s (left.take j) rest := by
  funext x
  unfold lostSet
  rw [contains_take hj]
  by_cases e : x = left[j]
  · subst e; rw [h]; simp
  · have : (x == left[j]) = false := by simpa using e
    rw [this, Bool.or_false]
theorem lostSet_miss {s : Int → Bool} {left rest : List Int} {j : Nat} (hj : j < left.length) (h : rest.contains left[j] = false) (x : Int) : lostSet s (left.take (j + 1)) rest x = if x = left[j] then true else lostSet s (left.take j) rest x := by
  unfold lostSet
  rw [contains_take hj]
  by_cases e : x = left[j]
  · subst e; rw [h]; simp
  · have : (x == left[j]) = false := by simpa using e
    rw [this, Bool.or_false, if_neg e]

set_option maxRecDepth 100000 in
set_option maxHeartbeats 4000000 in
theorem lost_any (B M : Nat) (b : List Ent) (w : World) (ok : Nat → Prop) (hB : w.heap[B]? = some (.cells #[.map (some M)] 49 (0, 0))) (hMB : MapB w ok M b) (hlen : b.length ≤ 1000) (hkr : ∀ x ∈ b, i64r x.1) (hr : ∀ x ∈ b, ∀ j ∈ x.2.2, ∀ y ∈ j.f1, i64r y) :
    Calls Try.prog 9 #[.pointer (some ⟨B, 0, none⟩)] w fun e w' => ∃ A c, e = .returned (.slice A (lostL b (fun _ => false) (b.map (·.1))).length c) ∧ Kd.N ki 3 w' w.heap.size (fun i => w.heap.size ≤ i) (.slice A (lostL b (fun _ => false) (b.map (·.1))).length c) (lostL b (fun _ => false) (b.map (·.1))) ∧ Below w.heap.size w w' := by
  have hmm := @run_makeMap Try.prog
  obtain ⟨w3, hw3⟩ : ∃ w3, w3 = ((w.alloc (.cells #[.pointer (some ⟨B, 0, none⟩)] 25)).alloc (.map #[] 0)).alloc (.cells #[.map (some (w.heap.size + 1))] 58) := ⟨_, rfl⟩
  have hbw3 : Below w.heap.size w w3 := by rw [hw3]; exact (((Below.refl _ _).alloc (Nat.le_refl _) _).alloc (by simp) _).alloc (by simp; omega) _
  have hsz3 : w3.heap.size = w.heap.size + 3 := by rw [hw3]; simp
  have p1 : w3.heap[w.heap.size]? = some (.cells #[.pointer (some ⟨B, 0, none⟩)] 25) := by
    rw [hw3]; exact heap_alloc_lt _ _ (heap_alloc_lt _ _ (World.alloc_heap_new w _))
  have p2 : w3.heap[w.heap.size + 2]? = some (.cells #[.map (some (w.heap.size + 1))] 58) := by
    rw [hw3]
    have := World.alloc_heap_new ((w.alloc (.cells #[.pointer (some ⟨B, 0, none⟩)] 25)).alloc (.map #[] 0)) (.cells #[.map (some (w.heap.size + 1))] 58)
    simpa using this
  have hS3 : SetB w3 (w.heap.size + 1) 0 (fun _ => false) := by
    refine ⟨.map [], ?_, fun k _ => rfl⟩
    rw [hw3]
    have h := World.ownsMap_made (H := Value) (w.alloc (.cells #[.pointer (some ⟨B, 0, none⟩)] 25)) Try.prog 3 unitElem
    have := h.alloc (.cells #[.map (some (w.heap.size + 1))] 58)
    simpa using this
  have hMl := hMB.lt
  have hBl := blk_lt' hB
  have hMB3 : MapB w3 (fun i => ok i ∧ i < w.heap.size) M b := (hMB.mono (ok' := fun i => ok i ∧ i < w.heap.size) (fun i h1 h2 => ⟨h1, h2⟩)).step (hbw3.block M hMl) (fun i hi hlt => hbw3.block i hlt)
  have hB3 := (hbw3.block B hBl).trans hB
  have hf := facts_N B M b w3 _ hB3 hMB3 (by omega)
  have HW3 := Lib.hid hw3
  have HF := Lib.hid hf
  have HP1 := Lib.hid p1
  have HP2 := Lib.hid p2
  have HB3 := Lib.hid hB3
  have hs3 : w.heap.size + 3 ≤ w3.heap.size := by omega
  clear hw3 hf p1 p2 hB3 hsz3 hB hMB
  go_enter Try.func9, Try.ntmps9
  go_wp2_with (go_at_call 8; rw [← HW3.out]; refine (HF.out).mono ?_; rintro e w4 ⟨A4, c4, rfl, hN4, hb4⟩)
  obtain ⟨n0, hn0⟩ : ∃ n0, n0 = b.length := ⟨_, rfl⟩
  have hN4' : Kd.N ki 3 w4 w3.heap.size (fun i => w3.heap.size ≤ i) (.slice A4 b.length c4) (b.map (·.1)) := hN4
  go_loopw [4] (fun vl W => ∃ (left : List Int) (s : Int → Bool) (n : Nat), Kd.N ki 3 W w3.heap.size (fun i => w3.heap.size ≤ i) vl left ∧ left.length ≤ b.length ∧ SetB W (w.heap.size + 1) n s ∧ n ≤ 1000 * (b.length - left.length) ∧ (∀ x ∈ left, ∃ y ∈ b, y.1 = x) ∧ Hid (lostL b (fun _ => false) (b.map (·.1)) = lostL b s left) ∧ Stp (· = w.heap.size + 1) w3 W) (fun vl _ => sliceLen vl)
  case atStart =>
    refine ⟨_, _, 0, hN4, by simp, hS3.step (hb4.block _ (by omega)), by omega, fun x hx => ?_, Lib.hid rfl, Stp.of_below hb4⟩
    obtain ⟨y, hy, rfl⟩ := List.mem_map.1 hx
    exact ⟨y, hy, rfl⟩
  case round =>
    obtain ⟨left, s, n, hNl, hll, hSW, hn, hsub, hlo, hsW⟩ := hrel
    obtain ⟨A, c, rfl⟩ := Kd.N_slice hNl
    have hCl := (Kd.N_reads' hNl).2.2
    have hszr := hsW.size
    have hsw : Stp (· = w.heap.size + 1) w wr := (Stp.of_below (S := (· = w.heap.size + 1)) hbw3).trans hsW (fun _ _ h => h)
    have hbwr : Below w.heap.size w wr := hsw.to_below (Nat.le_refl _) (fun k e => by omega)
    have hBr := hsW.keep HB3.out (by omega)
    have hP1r := hsW.keep HP1.out (by omega)
    have hP2r := hsW.keep HP2.out (by omega)
    have hMBr : MapB wr (fun i => ok i ∧ i < w.heap.size) M b := hMB3.step (hsW.block M (by omega) (by omega)) (fun i hi hlt => hsW.block i hlt (by have := hi.2; omega))
    have hcl := cloneI_any A c left wr hCl (by omega)
    have hdel : ∀ w5 v5, Kd.N ki 3 w5 wr.heap.size (fun k => wr.heap.size ≤ k) v5 left → Below wr.heap.size wr w5 →
        Hid (Calls Try.prog 31 #[v5, .func (.func 33) #[] #[.pointer (some ⟨w.heap.size, 0, none⟩), .pointer (some ⟨w.heap.size + 2, 0, none⟩)]] w5 fun e w' => ∃ v', e = .returned v' ∧ Kd.N ki 3 w' wr.heap.size (fun k => wr.heap.size ≤ k) v' (lostRest b s left) ∧ Below wr.heap.size wr w') := by
      intro w5 v5 hN5 hb5
      have hv5 := Kd.N_base hN5
      refine Lib.hid ((delI_any 33 _ _ (fun id => heldE s (bget b id)) enters33 v5 left w5 _ _ hN5 (by omega) ?_).mono ?_)
      · intro W hW x hx
        obtain ⟨y, hy, hyx⟩ := hsub x hx
        have hbW : Below wr.heap.size wr W := hb5.trans (hW.to_below hb5.size (fun k e => hv5 k e))
        have hk : i64r x := by rw [← hyx]; exact hkr y hy
        refine lost1_any B M w.heap.size (w.heap.size + 2) (w.heap.size + 1) n b s W (fun i => ok i ∧ i < w.heap.size) x hk ((hbW.block B (blk_lt' hBr)).trans hBr) (hMBr.step (hbW.block M hMBr.lt) (fun i hi hlt => hbW.block i hlt)) ?_ ?_ (hSW.step (hbW.block _ hSW.lt)) ?_
        · rw [cell_blk ((hbW.block _ (blk_lt' hP1r)).trans hP1r)]; rfl
        · rw [cell_blk ((hbW.block _ (blk_lt' hP2r)).trans hP2r)]; rfl
        · intro j hj y hy
          unfold bget at hj
          cases hbf : bfind b x with
          | none => rw [hbf] at hj; cases hj
          | some z =>
            rw [hbf] at hj
            unfold bfind at hbf
            obtain ⟨e, he, hez⟩ := Option.map_eq_some_iff.1 hbf
            subst hez
            exact hr e (List.mem_of_find?_eq_some he) j hj y hy
      · rintro e w6 ⟨v6, rfl, hN6, hs6⟩
        exact ⟨v6, rfl, hN6, hb5.trans (hs6.to_below hb5.size (fun k e => hv5 k e))⟩
    have HCL := Lib.hid hcl
    have HBr := Lib.hid hBr
    have HP1r := Lib.hid hP1r
    have HP2r := Lib.hid hP2r
    clear hcl hBr hP1r hP2r
    by_cases hend : (lostRest b s left).length = left.length
    · have HL := Lib.hid (lostL_end hend)
      go_wp2_with (first
        | (go_at_call 32; refine (HCL.out).mono ?_; rintro e w5 ⟨v5, rfl, hN5, hb5⟩; have HD := hdel w5 v5 hN5 hb5)
        | (go_at_call 31; refine (HD.out).mono ?_; rintro e w6 ⟨v6, rfl, hN6, hb6⟩; obtain ⟨A6, c6, rfl⟩ := Kd.N_slice hN6; rw [hend]))
      go_ret
      rw [hlo.out, HL.out]
      exact ⟨_, _, rfl, Kd.N_mono (Kd.N_lower (Kd.N_below hNl hb6) (by omega)) (fun i hi => by omega), hbwr.trans (hb6.mono hbwr.size)⟩
    · have hlt2 : (lostRest b s left).length < left.length := by have := lostRest_le b s left; omega
      have HL := Lib.hid (lostL_next hend)
      go_wp2_with (first
        | (go_at_call 32; refine (HCL.out).mono ?_; rintro e w5 ⟨v5, rfl, hN5, hb5⟩; have HD := hdel w5 v5 hN5 hb5)
        | (go_at_call 31; refine (HD.out).mono ?_; rintro e w6 ⟨v6, rfl, hN6, hb6⟩; obtain ⟨A6, c6, rfl⟩ := Kd.N_slice hN6))
      obtain ⟨rest, hrest⟩ : ∃ rest, rest = lostRest b s left := ⟨_, rfl⟩
      rw [← hrest] at hN6 hlt2 HL ⊢
      have hN6l := Kd.N_below hNl hb6
      have hS6 := hSW.step (hb6.block _ hSW.lt)
      have hs6 : Stp (· = w.heap.size + 1) w3 w6 := hsW.below hb6
      have hc6 := (Kd.N_reads' hN6).2.1
      have HR := Lib.hid hrest
      clear hrest
      go_loopw [23] (fun vj W => ∃ (j m : Nat), j ≤ left.length ∧ vj = .int .i64 j ∧ SetB W (w.heap.size + 1) m (lostSet s (left.take j) rest) ∧ m ≤ n + j ∧ Stp (· = w.heap.size + 1) w6 W) (fun vj _ => left.length - (intOf vj).toNat)
      case atStart => exact ⟨0, n, Nat.zero_le _, rfl, by rw [List.take_zero, lostSet_nil]; exact hS6, by omega, Stp.refl _ _⟩
      case round =>
        obtain ⟨j, m, hj, rfl, hSj, hm, hsj⟩ := hrel
        have hs6z := hb6.size
        have hsjz := hsj.size
        have hNl2 := Kd.N_step (Kd.N_bound hN6l) (w1 := wr) (fun i hi hlt => hsj.block i hlt (fun e => by have := hi.1; omega))
        have hNr2 := Kd.N_step (Kd.N_bound hN6) (w1 := wr) (fun i hi hlt => hsj.block i hlt (fun e => by have := hi.1; omega))
        by_cases hltj : j < left.length
        · obtain ⟨ab, ao, rfl, habl, hcs⟩ := C_addr (Kd.N_reads' hNl2).2.2 (by omega)
          have e0 := hcs j hltj
          have g1 : left.getD j 0 = left[j] := by simp [List.getD_eq_getElem?_getD, hltj]
          rw [g1] at e0
          clear hcs g1
          have hcon := contains_any A6 c6 rest left[j] wr (Kd.N_reads' hNr2).2.2
          have hP2w := (hs6.trans hsj (fun _ _ h => h)).keep HP2.out (by omega)
          have c2 : wr.cell? ⟨w.heap.size + 1 + 1, 0, none⟩ = some (.map (some (w.heap.size + 1))) := by rw [cell_blk hP2w]; rfl
          have HCON := Lib.hid hcon
          clear hcon hP2w
          obtain ⟨y, hy, hyx⟩ := hsub _ (List.getElem_mem hltj)
          have hkj : i64r left[j] := by rw [← hyx]; exact hkr y hy
          have HY := Lib.hid hyx
          clear hyx
          cases hcb : rest.contains left[j] with
          | true =>
            have HC := Lib.hid (lostSet_hit (s := s) hltj hcb)
            rw [hcb] at HCON
            clear hcb
            go_wp2_with (go_at_call 35; refine (HCON.out).mono ?_; rintro e w' ⟨rfl, rfl⟩)
            refine ⟨?rel0, ?measure⟩
            case rel0 => exact ⟨j + 1, m, by omega, by go_num, by rw [HC.out]; exact hSj, by omega, hsj⟩
            case measure => simp [intOf]; omega
          | false =>
            have HC := Lib.hid (lostSet_miss (s := s) hltj hcb)
            rw [hcb] at HCON
            clear hcb
            obtain ⟨D, hown, hD⟩ := hSj.ex
            have hkey := key64 hkj
            have hm2 : m < maxLen := by unfold maxLen; omega
            go_wp2_with (first
              | (go_at_call 35; refine (HCON.out).mono ?_; rintro e w' ⟨rfl, rfl⟩)
              | (at_mapUpdate; refine wpList_mapUpdate_own _ rfl _ _ _ 58 rfl 3 63 K47 Try.underlying58 unitElem (w.heap.size + 1) m D rfl hown hm2 _ _ (.int .i64 left[j]) rfl rfl hkey (.agg []) [] rfl ?_; intro w8 hown8 hgrow8))
            refine ⟨?rel0, ?measure⟩
            case rel0 => exact ⟨j + 1, m + 1, by omega, by go_num, SetB.put hkj hown hD hown8 (fun x _ => HC.out x), by omega, hsj.trans (Stp.grown1 hgrow8) (fun _ _ h => h)⟩
            case measure => simp [intOf]; omega
        · have hjl : j = left.length := by omega
          subst hjl
          rw [List.take_length] at hSj
          go_wp2
          refine ⟨?rel0, ?measure⟩
          case rel0 =>
            refine ⟨rest, _, m, Kd.N_mono (by exact hNr2) (fun i hi => by have := hi.1; omega) |> (Kd.N_lower · (by omega)), by omega, hSj, by omega, fun x hx => ?_, Lib.hid (by rw [hlo.out, HL.out]), hs6.trans hsj (fun _ _ h => h)⟩
            rw [HR.out] at hx
            exact hsub x (List.mem_filter.1 hx).1
          case measure => exact hlt2
end Go.Proofs.Ytbmnefdiiibabaa
