import Derived.Test.YtbmnefdiiibabaaTN
namespace Go.Proofs.Ytbmnefdiiibabaa
set_option linter.unusedVariables false
set_option linter.unusedSimpArgs false
open Go.RowKit Go.Maps Go.Sort Go.Shelf Go.Proofs.YtbmnefdiiibabaaW.PrintWords Go.Proofs.YtbmnefdiiibabaaW.PrintMore PTruthPlays

def lexc : List Int → List Int → Int
  | [], [] => 0
  | [], _ :: _ => -1
  | _ :: _, [] => 1
  | a :: l, b :: m => if a < b then -1 else if b < a then 1 else lexc l m
theorem lexc_eq : ∀ {l m : List Int}, lexc l m = 0 → l = m
  | [], [], _ => rfl
  | [], _ :: _, h => by cases h
  | _ :: _, [], h => by cases h
  | a :: l, b :: m, h => by
    unfold lexc at h
    split at h
    · cases h
    · split at h
      · cases h
      · rw [lexc_eq h, show a = b by omega]
theorem lexc_refl : ∀ (l : List Int), lexc l l = 0
  | [] => rfl
  | a :: l => by unfold lexc; rw [if_neg (by omega), if_neg (by omega)]; exact lexc_refl l
theorem lexc_flip : ∀ (l m : List Int), lexc m l = - lexc l m
  | [], [] => rfl
  | [], _ :: _ => rfl
  | _ :: _, [] => rfl
  | a :: l, b :: m => by
    unfold lexc
    rcases Int.lt_trichotomy a b with h | h | h
    · rw [if_neg (by omega), if_pos h, if_pos h]; rfl
    · rw [if_neg (by omega), if_neg (by omega), if_neg (by omega), if_neg (by omega)]; exact lexc_flip l m
    · rw [if_pos h, if_neg (by omega), if_pos h]
theorem lexc_range : ∀ (l m : List Int), lexc l m = -1 ∨ lexc l m = 0 ∨ lexc l m = 1
  | [], [] => .inr (.inl rfl)
  | [], _ :: _ => .inl rfl
  | _ :: _, [] => .inr (.inr rfl)
  | a :: l, b :: m => by
    unfold lexc
    split
    · exact .inl rfl
    · split
      · exact .inr (.inr rfl)
      · exact lexc_range l m
theorem lexc_trans : ∀ (l m n : List Int), lexc l m < 0 → lexc m n < 0 → lexc l n < 0
  | [], [], _, h, _ => by cases h
  | [], _ :: _, [], _, h => by cases h
  | [], _ :: _, _ :: _, _, _ => by show (-1 : Int) < 0; omega
  | _ :: _, [], _, h, _ => by cases h
  | _ :: _, _ :: _, [], _, h => by cases h
  | a :: l, b :: m, c :: n, h1, h2 => by
    unfold lexc at h1 h2 ⊢
    by_cases e1 : a < b
    · by_cases e2 : b < c
      · rw [if_pos (by omega)]; omega
      · rw [if_neg e2] at h2
        by_cases e3 : c < b
        · rw [if_pos e3] at h2; omega
        · rw [if_pos (by omega)]; omega
    · rw [if_neg e1] at h1
      by_cases e3 : b < a
      · rw [if_pos e3] at h1; omega
      · rw [if_neg e3] at h1
        have : a = b := by omega
        subst this
        by_cases e2 : a < c
        · rw [if_pos e2]; omega
        · rw [if_neg e2] at h2 ⊢
          by_cases e4 : c < a
          · rw [if_pos e4] at h2; omega
          · rw [if_neg e4] at h2 ⊢; exact lexc_trans l m n h1 h2

theorem lexc_step {l m : List Int} {k : Nat} (h1 : k < l.length) (h2 : k < m.length) : lexc (l.drop k) (m.drop k) = if l[k] < m[k] then -1 else if m[k] < l[k] then 1 else lexc (l.drop (k + 1)) (m.drop (k + 1)) := by
  rw [List.drop_eq_getElem_cons h1, List.drop_eq_getElem_cons h2]; rfl
theorem lexc_out {l m : List Int} {k : Nat} (h1 : k < l.length) (h2 : m.length ≤ k) : lexc (l.drop k) (m.drop k) = 1 := by
  rw [List.drop_eq_getElem_cons h1, List.drop_eq_nil_of_le h2]; rfl

set_option maxRecDepth 100000 in
set_option maxHeartbeats 1000000 in
theorem compareS_any (A B : Option Addr) (ca cb : Nat) (l m : List Int) (w : World) (hl : ki.C w A l.length l) (hm : ki.C w B m.length m) :
    Calls Try.prog 40 #[.slice A l.length ca, .slice B m.length cb] w fun e w' => e = .returned (.int .i64 (lexc l m)) ∧ w' = w := by
  have hmax := C_max hl
  have hmax2 := C_max hm
  have hcmp : ∀ x y W, Calls Try.prog 39 #[.int .i64 x, .int .i64 y] W fun e w' => e = .returned (.int .i64 (Lib.compareInt x y)) ∧ w' = W := fun x y W => Try.cmp_Compare_int x y W
  have HL := Lib.hid hl
  have HM := Lib.hid hm
  clear hl hm
  go_enter Try.func40, Try.ntmps40
  go_wp2
  go_loopw [11] (fun i W => ∃ k : Nat, k ≤ l.length ∧ k ≤ m.length ∧ i = .int .i64 k ∧ Hid (lexc l m = lexc (l.drop k) (m.drop k)) ∧ W = w) (fun i _ => l.length - (intOf i).toNat)
  case atStart => exact ⟨0, Nat.zero_le _, Nat.zero_le _, rfl, Lib.hid rfl, rfl⟩
  case round =>
    obtain ⟨k, hk, hkm, rfl, hlex, rfl⟩ := hrel
    by_cases hlt : k < l.length
    · obtain ⟨b1, o1, rfl, _, hc1⟩ := C_addr HL.out (by omega)
      have e1 := hc1 k hlt
      have g1 : l.getD k 0 = l[k] := by simp [List.getD_eq_getElem?_getD, hlt]
      rw [g1] at e1
      clear hc1 g1
      by_cases hltm : k < m.length
      · obtain ⟨b2, o2, rfl, _, hc2⟩ := C_addr HM.out (by omega)
        have e2 := hc2 k hltm
        have g2 : m.getD k 0 = m[k] := by simp [List.getD_eq_getElem?_getD, hltm]
        rw [g2] at e2
        clear hc2 g2
        have hst := Lib.hid (lexc_step hlt hltm)
        rcases Int.lt_trichotomy l[k] m[k] with h | h | h
        · have hci : Lib.compareInt l[k] m[k] = -1 := by unfold Lib.compareInt; rw [if_pos h]
          go_wp2_with (go_at_call 39; refine (hcmp _ _ _).mono ?_; rw [hci]; rintro e w' ⟨rfl, rfl⟩)
          go_ret
          exact ⟨by rw [hlex.out, hst.out, if_pos h]; rfl, rfl⟩
        · have hci : Lib.compareInt l[k] m[k] = 0 := by unfold Lib.compareInt; rw [if_neg (by omega), if_neg (by omega)]
          have HE := Lib.hid h
          clear h
          go_wp2_with (go_at_call 39; refine (hcmp _ _ _).mono ?_; rw [hci]; rintro e w' ⟨rfl, rfl⟩)
          go_roundw
          case rel => exact ⟨k + 1, by omega, by omega, by go_num, Lib.hid (by have h := HE.out; rw [hlex.out, hst.out, if_neg (by omega), if_neg (by omega)]), by first | rfl | trivial⟩
          case measure => simp [intOf]; omega
        · have hci : Lib.compareInt l[k] m[k] = 1 := by unfold Lib.compareInt; rw [if_neg (by omega), if_pos (by omega)]
          go_wp2_with (go_at_call 39; refine (hcmp _ _ _).mono ?_; rw [hci]; rintro e w' ⟨rfl, rfl⟩)
          go_ret
          exact ⟨by rw [hlex.out, hst.out, if_neg (by omega), if_pos h]; rfl, rfl⟩
      · go_wp2
        go_ret
        exact ⟨by rw [hlex.out, lexc_out hlt (by omega)]; rfl, rfl⟩
    · have hd : l.drop k = [] := List.drop_eq_nil_of_le (by omega)
      by_cases hltm : l.length < m.length
      · go_wp2
        go_ret
        refine ⟨?_, rfl⟩
        rw [hlex.out, hd, List.drop_eq_getElem_cons (show k < m.length by omega)]; rfl
      · go_wp2
        go_ret
        refine ⟨?_, rfl⟩
        rw [hlex.out, hd, List.drop_eq_nil_of_le (show m.length ≤ k by omega)]; rfl

set_option maxRecDepth 100000 in
set_option maxHeartbeats 1000000 in
/-- cmp.Or of two numbers that lie in a block of their own -/
theorem or_any (b : Nat) (x y : Int) (w : World) (h0 : w.cell? ⟨b, 0, none⟩ = some (.int .i64 x)) (h1 : w.cell? ⟨b, 1, none⟩ = some (.int .i64 y)) :
    Calls Try.prog 38 #[.slice (some ⟨b, 0, none⟩) 2 2] w fun e w' => e = .returned (.int .i64 (if x = 0 then y else x)) ∧ w' = w := by
  go_enter Try.func38, Try.ntmps38
  go_wp2
  by_cases hx : x = 0
  · by_cases hy : y = 0
    · subst hx; subst hy
      refine wp_loop_rounds 3 ?_
      rw [rounds_succ]
      go_wp2
      rw [rounds_succ]
      go_wp2
      rw [rounds_succ]
      go_wp2
      go_ret
      exact ⟨rfl, rfl⟩
    · subst hx
      refine wp_loop_rounds 2 ?_
      rw [rounds_succ]
      go_wp2
      rw [rounds_succ]
      go_wp2
      go_ret
      exact ⟨rfl, rfl⟩
  · refine wp_loop_rounds 1 ?_
    rw [rounds_succ]
    go_wp2
    go_ret
    exact ⟨rfl, rfl⟩

theorem or_alloc (n : Nat) (x y r : Int) (V : World) (hn : n = V.heap.size) (hr : r = if x = 0 then y else x) : Calls Try.prog 38 #[.slice (some ⟨n, 0, none⟩) 2 2] (V.alloc (.cells #[.int .i64 x, .int .i64 y] 3)) fun e w' => e = .returned (.int .i64 r) ∧ w' = (V.alloc (.cells #[.int .i64 x, .int .i64 y] 3)) := by
  subst hn; subst hr
  have h := World.alloc_heap_new V (.cells #[.int .i64 x, .int .i64 y] 3)
  exact or_any V.heap.size x y _ (by rw [cell_blk h]; rfl) (by rw [cell_blk h]; rfl)
def jcmp (x y : S33) : Int := if Lib.compareInt x.f0 y.f0 = 0 then lexc x.f1 y.f1 else Lib.compareInt x.f0 y.f0

set_option maxRecDepth 100000 in
set_option maxHeartbeats 1000000 in
/-- Of's comparison -/
theorem of1_any (x y : S33) (A B : Option Addr) (ca cb : Nat) (W : World) (hx : ki.C W A x.f1.length x.f1) (hy : ki.C W B y.f1.length y.f1) :
    Calls Try.prog 37 #[.agg #[.int .i64 x.f0, .slice A x.f1.length ca], .agg #[.int .i64 y.f0, .slice B y.f1.length cb]] W fun e w' => e = .returned (.int .i64 (jcmp x y)) ∧ ∃ q os', w' = grow (W.drewN q) os' := by
  obtain ⟨cc, hcc⟩ : ∃ cc, cc = Lib.compareInt x.f0 y.f0 := ⟨_, rfl⟩
  have hcmp : ∀ W, Calls Try.prog 39 #[.int .i64 x.f0, .int .i64 y.f0] W fun e w' => e = .returned (.int .i64 cc) ∧ w' = W := fun W => by rw [hcc]; exact Try.cmp_Compare_int x.f0 y.f0 W
  have HC := Lib.hid hcc
  clear hcc
  obtain ⟨w2, hw2⟩ : ∃ w2, w2 = (W.alloc (.cells #[.int .i64 x.f0, .slice A x.f1.length ca] 33)).alloc (.cells #[.int .i64 y.f0, .slice B y.f1.length cb] 33) := ⟨_, rfl⟩
  have hB : Below W.heap.size W w2 := by rw [hw2]; exact ((Below.refl _ _).alloc (Nat.le_refl _) _).alloc (by simp) _
  have h2 : w2.heap[W.heap.size]? = some (.cells #[.int .i64 x.f0, .slice A x.f1.length ca] 33) := by rw [hw2]; exact heap_alloc_lt _ _ (World.alloc_heap_new W _)
  have h3 : w2.heap[W.heap.size + 1]? = some (.cells #[.int .i64 y.f0, .slice B y.f1.length cb] 33) := by
    rw [hw2]
    have := World.alloc_heap_new (W.alloc (.cells #[.int .i64 x.f0, .slice A x.f1.length ca] 33)) (.cells #[.int .i64 y.f0, .slice B y.f1.length cb] 33)
    simpa using this
  have c20 : w2.cell? ⟨W.heap.size, 0, none⟩ = some (.int .i64 x.f0) := by rw [cell_blk h2]; rfl
  have c21 : w2.cell? ⟨W.heap.size, 1, none⟩ = some (.slice A x.f1.length ca) := by rw [cell_blk h2]; rfl
  have c30 : w2.cell? ⟨W.heap.size + 1, 0, none⟩ = some (.int .i64 y.f0) := by rw [cell_blk h3]; rfl
  have c31 : w2.cell? ⟨W.heap.size + 1, 1, none⟩ = some (.slice B y.f1.length cb) := by rw [cell_blk h3]; rfl
  have hcs : ∀ W', Below w2.heap.size w2 W' → Hid (Calls Try.prog 40 #[.slice A x.f1.length ca, .slice B y.f1.length cb] W' fun e w' => e = .returned (.int .i64 (lexc x.f1 y.f1)) ∧ w' = W') := fun W' hW' => Lib.hid (compareS_any A B ca cb x.f1 y.f1 W' (Kd.C_below hx (hB.trans (hW'.mono hB.size))) (Kd.C_below hy (hB.trans (hW'.mono hB.size))))
  have HW2 := Lib.hid hw2
  have H2 := Lib.hid h2
  have H3 := Lib.hid h3
  clear hw2 h2 h3
  go_enter Try.func37, Try.ntmps37
  go_wp2_with fail
  rw [← HW2.out]
  have hbd : Below w2.heap.size w2 w2.drew := (Below.refl _ _).drew
  go_cut [4] (fun v wc => v = .int .i64 (jcmp x y) ∧ ∃ q os', wc = grow (w2.drewN q) os')
  case first =>
    go_region_law
      (first
        | (go_simp; go_at_call 39; refine (hcmp _).mono ?_; rintro e w' ⟨rfl, rfl⟩)
        | (go_simp; go_at_call 40; refine ((hcs _ hbd).out).mono ?_; rintro e w' ⟨rfl, rfl⟩)
        | (go_simp; go_at_call 38; refine (or_alloc w2.heap.size cc (lexc x.f1 y.f1) (jcmp x y) w2.drew rfl (by rw [HC.out]; rfl)).mono ?_; rintro e w' ⟨rfl, rfl⟩))
    all_goals
      go_wp2_with fail
      go_meet
      exact ⟨rfl, 1, #[.cells #[.int .i64 cc, .int .i64 (lexc x.f1 y.f1)] 3], by first | exact alloc_eq_grow _ _ | exact congrArg World.drew (alloc_eq_grow w2 _)⟩
  case rest =>
    obtain ⟨rfl, q, os', hwc⟩ := hcut
    have HWC := Lib.hid hwc
    clear hwc
    go_wp2_with fail
    go_ret
    refine ⟨rfl, q, #[.cells #[.int .i64 x.f0, .slice A x.f1.length ca] 33, .cells #[.int .i64 y.f0, .slice B y.f1.length cb] 33] ++ os', ?_⟩
    rw [HWC.out, HW2.out, alloc_eq_grow, alloc_eq_grow]
    show grow (grow (grow (W.drewN q) #[.cells #[.int .i64 x.f0, .slice A x.f1.length ca] 33]) #[.cells #[.int .i64 y.f0, .slice B y.f1.length cb] 33]) os' = _
    rw [grow_grow, grow_grow, ← Array.append_assoc]
    rfl
end Go.Proofs.Ytbmnefdiiibabaa
