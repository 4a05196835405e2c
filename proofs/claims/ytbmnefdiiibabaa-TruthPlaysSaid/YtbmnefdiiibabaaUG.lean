import Derived.Test.YtbmnefdiiibabaaUF
namespace Go.Proofs.Ytbmnefdiiibabaa
set_option linter.unusedVariables false
set_option linter.unusedSimpArgs false
open Go.RowKit Go.Maps Go.Sort Go.Shelf Go.Proofs.YtbmnefdiiibabaaW.PrintWords Go.Proofs.YtbmnefdiiibabaaW.PrintMore PTruthPlays

/-! ### the document's Lost -/
def rtaken (r : S69) (set : List Int) : Bool := r.f1 || r.f2.any (fun y => y.f1.all (fun x => set.contains x))
def lostOf (rows : List S69) (t : Int → Bool) : List Int := (rows.map (·.f0)).filter (fun x => !t x)
theorem nodup_le : ∀ {s l : List Int}, s.Nodup → (∀ x ∈ s, x ∈ l) → s.length ≤ l.length
  | [], _, _, _ => Nat.zero_le _
  | x :: s, l, hn, hs => by
    rw [List.nodup_cons] at hn
    have hx := hs x (by simp)
    have h := nodup_le (s := s) (l := l.erase x) hn.2 (fun y hy => (List.mem_erase_of_ne (by rintro rfl; exact hn.1 hy)).2 (hs y (by simp [hy])))
    rw [List.length_erase_of_mem hx] at h
    have := List.length_pos_of_mem hx
    simp only [List.length_cons]; omega
/-- the set, as it grows -/
structure SetOk (rows : List S69) (set : List Int) : Prop where
  nd : set.Nodup
  sub : ∀ x ∈ set, x ∈ rows.map (·.f0)
  min : ∀ S, closedS rows S → ∀ x ∈ set, S x
theorem SetOk.nil (rows : List S69) : SetOk rows [] := ⟨List.nodup_nil, by simp, by simp⟩
theorem SetOk.le {rows : List S69} {set : List Int} (h : SetOk rows set) : set.length ≤ rows.length := by
  have := nodup_le h.nd h.sub
  simpa using this
theorem rtaken_iff (r : S69) (set : List Int) : rtaken r set = true ↔ r.f1 = true ∨ ∃ y ∈ r.f2, ∀ x ∈ y.f1, x ∈ set := by
  unfold rtaken
  rw [Bool.or_eq_true, List.any_eq_true]
  simp only [List.all_eq_true, List.contains_iff_mem]
theorem SetOk.snoc {rows : List S69} {set : List Int} (h : SetOk rows set) {k : Nat} (hk : k < rows.length) (hn : set.contains rows[k].f0 = false) (ht : rtaken rows[k] set = true) : SetOk rows (set ++ [rows[k].f0]) := by
  have hnm : rows[k].f0 ∉ set := fun hm => by rw [List.contains_iff_mem.2 hm] at hn; cases hn
  refine ⟨List.nodup_append.2 ⟨h.nd, by simp, fun x hx y hy => by simp at hy; subst hy; rintro rfl; exact hnm hx⟩, fun x hx => ?_, fun S hS x hx => ?_⟩
  · rcases List.mem_append.1 hx with hx | hx
    · exact h.sub x hx
    · simp at hx; subst hx; exact List.mem_map.2 ⟨_, List.getElem_mem hk, rfl⟩
  · rcases List.mem_append.1 hx with hx | hx
    · exact h.min S hS x hx
    · simp at hx; subst hx
      refine hS _ (List.getElem_mem hk) ?_
      rcases (rtaken_iff _ _).1 ht with h1 | ⟨y, hy, h1⟩
      · exact .inl h1
      · exact .inr ⟨y, hy, fun x hx => h.min S hS x (h1 x hx)⟩
theorem SetOk.least {rows : List S69} {set : List Int} (h : SetOk rows set) (hc : ∀ j (hj : j < rows.length), set.contains rows[j].f0 = false → rtaken rows[j] set = false) : Least rows (fun x => set.contains x = true) := by
  refine ⟨fun r hr hh => ?_, fun S hS x hx => h.min S hS x (List.contains_iff_mem.1 hx)⟩
  obtain ⟨j, hj, rfl⟩ := List.getElem_of_mem hr
  cases hs : set.contains rows[j].f0 with
  | true => rfl
  | false =>
    have := hc j hj hs
    rw [← Bool.not_eq_true, rtaken_iff] at this
    exact absurd (hh.imp (fun h => h) (fun ⟨y, hy, h⟩ => ⟨y, hy, fun x hx => List.contains_iff_mem.1 (h x hx)⟩)) this
theorem lostOf_hit {rows : List S69} {t : Int → Bool} {k : Nat} (hk : k < rows.length) (h : t rows[k].f0 = false) : lostOf (rows.take (k + 1)) t = lostOf (rows.take k) t ++ [rows[k].f0] := by
  unfold lostOf
  rw [List.take_succ_eq_append_getElem hk, List.map_append, List.filter_append]
  simp [h]
theorem lostOf_miss {rows : List S69} {t : Int → Bool} {k : Nat} (hk : k < rows.length) (h : t rows[k].f0 = true) : lostOf (rows.take (k + 1)) t = lostOf (rows.take k) t := by
  unfold lostOf
  rw [List.take_succ_eq_append_getElem hk, List.map_append, List.filter_append]
  simp [h]
theorem lostOf_len (rows : List S69) (t : Int → Bool) (k : Nat) : (lostOf (rows.take k) t).length ≤ rows.length := by
  unfold lostOf
  refine Nat.le_trans (List.length_filter_le _ _) ?_
  rw [List.length_map, List.length_take]; omega

theorem in_l0 (l : List Int) (x : Int) (hl : l.length ≤ 1000000) : ∀ (n k fuel : Nat), l.length - k = n → k ≤ l.length → n < fuel → witanref29_in.l0 fuel l x (k : Int) = some ((l.drop k).contains x)
  | n, k, 0, _, _, h => by omega
  | 0, k, fuel + 1, hn, hk, _ => by
    unfold witanref29_in.l0
    rw [if_neg (by omega), List.drop_eq_nil_of_le (by omega)]; rfl
  | n + 1, k, fuel + 1, hn, hk, hf => by
    have hkl : k < l.length := by omega
    unfold witanref29_in.l0
    rw [if_pos (by omega), if_pos (by omega), rd_at hkl, List.drop_eq_getElem_cons hkl, List.contains_cons]
    by_cases h : l[k] = x
    · rw [if_pos h, h]; simp
    · rw [if_neg h, wrap_succ (by omega), in_l0 l x hl n (k + 1) fuel (by omega) (by omega) (by omega)]
      have : (x == l[k]) = false := by simpa using fun e : x = l[k] => h e.symm
      rw [this, Bool.false_or]
theorem in_f (l : List Int) (x : Int) (hl : l.length ≤ 1000000) (fuel : Nat) (hf : l.length < fuel) : witanref29_in.f fuel l x = some (l.contains x) := by
  have := in_l0 l x hl l.length 0 fuel (by omega) (by omega) hf
  simpa [witanref29_in.f] using this
theorem rd33_at {l : List S33} {k : Nat} (hk : k < l.length) : rd_T33 l (k : Int) = l[k] := by
  unfold rd_T33
  simp [List.getD_eq_getElem?_getD, hk]
theorem taken_l1 (set : List Int) (hs : set.length ≤ 1000000) (a : Int) (b : Bool) (L : List S33) (i : Nat) (hi : i < L.length) (hL : L.length ≤ 1000) (ht : L[i].f1.length ≤ 1000) : ∀ (d kk fuel : Nat) (all : Bool), L[i].f1.length - kk = d → kk ≤ L[i].f1.length → d + set.length + 3 ≤ fuel →
    witanref29_taken.l1 fuel set (i : Int) all (kk : Int) a b L = if (all && (L[i].f1.drop kk).all (fun x => set.contains x)) = true then some true else witanref29_taken.l0 (fuel - d - 1) set ((i + 1 : Nat) : Int) a b L
  | d, kk, 0, _, _, _, h => by omega
  | 0, kk, fuel + 1, all, hd, hk, hf => by
    unfold witanref29_taken.l1
    rw [if_pos (by omega), if_pos (by omega), rd33_at hi, if_neg (by omega), List.drop_eq_nil_of_le (by omega), wrap_succ (by omega)]
    cases all <;> simp
  | d + 1, kk, fuel + 1, all, hd, hk, hf => by
    have hkl : kk < L[i].f1.length := by omega
    unfold witanref29_taken.l1
    rw [if_pos (by omega), if_pos (by omega), rd33_at hi, if_pos (by omega), List.drop_eq_getElem_cons hkl, List.all_cons]
    have e : fuel + 1 - (d + 1) - 1 = fuel - d - 1 := by omega
    cases all with
    | true =>
      rw [if_pos rfl, if_pos (by omega), rd_at hkl, in_f _ _ hs _ (by omega)]
      simp only [Option.bind_some]
      rw [wrap_succ (by omega), taken_l1 set hs a b L i hi hL ht d (kk + 1) fuel _ (by omega) (by omega) (by omega), Bool.true_and, e]
    | false =>
      rw [if_neg (by decide), wrap_succ (by omega), taken_l1 set hs a b L i hi hL ht d (kk + 1) fuel _ (by omega) (by omega) (by omega), e]
      simp
theorem taken_l0 (set : List Int) (hs : set.length ≤ 1000000) (a : Int) (b : Bool) (L : List S33) (hL : L.length ≤ 1000) (ht : ∀ y ∈ L, y.f1.length ≤ 1000) (T : Nat) (hT : 1000 + set.length + 4 ≤ T) : ∀ (n i fuel : Nat), L.length - i = n → i ≤ L.length → n * T + 1 ≤ fuel →
    witanref29_taken.l0 fuel set (i : Int) a b L = some ((L.drop i).any (fun y => y.f1.all (fun x => set.contains x))) := by
  intro n
  induction n with
  | zero =>
    intro i fuel hn hi hf
    obtain ⟨fuel, rfl⟩ : ∃ m, fuel = m + 1 := ⟨fuel - 1, by omega⟩
    unfold witanref29_taken.l0
    rw [if_neg (by omega), List.drop_eq_nil_of_le (by omega)]; rfl
  | succ n ih =>
    intro i fuel hn hi hf
    rw [Nat.succ_mul] at hf
    obtain ⟨fuel, rfl⟩ : ∃ m, fuel = m + 1 := ⟨fuel - 1, by omega⟩
    have hil : i < L.length := by omega
    have hti := ht _ (List.getElem_mem hil)
    unfold witanref29_taken.l0
    rw [if_pos (by omega)]
    have h1 := taken_l1 set hs a b L i hil hL hti L[i].f1.length 0 fuel true (by omega) (by omega) (by omega)
    rw [show ((0 : Nat) : Int) = 0 from rfl] at h1
    rw [h1, List.drop_eq_getElem_cons hil, List.any_cons, Bool.true_and, List.drop_zero]
    cases hall : L[i].f1.all (fun x => set.contains x) with
    | true => simp
    | false =>
      rw [if_neg (by decide), ih (i + 1) _ (by omega) (by omega) (by omega), Bool.false_or]
theorem taken_f (r : S69) (set : List Int) (hs : set.length ≤ 1000000) (hL : r.f2.length ≤ 1000) (ht : ∀ y ∈ r.f2, y.f1.length ≤ 1000) : ∃ k, witanref29_taken.f k r.f0 r.f1 r.f2 set = some (rtaken r set) := by
  refine ⟨r.f2.length * (1000 + set.length + 4) + 1, ?_⟩
  unfold witanref29_taken.f rtaken
  cases h : r.f1 with
  | true => rfl
  | false =>
    rw [if_neg (by decide)]
    have := taken_l0 set hs r.f0 false r.f2 hL ht _ (Nat.le_refl _) r.f2.length 0 _ (by omega) (by omega) (Nat.le_refl _)
    rw [show ((0 : Nat) : Int) = 0 from rfl] at this
    rw [this]; rfl

theorem in_any (A : Option Addr) (c : Nat) (l : List Int) (x : Int) (w : World) (hC : ki.C w A l.length l) (hc : l.length ≤ c) (hl : l.length ≤ 1000000) :
    Calls Try.prog 41 #[.slice A l.length c, .int .i64 x] w fun e w' => e = .returned (.bool (l.contains x)) ∧ Drawn0 w w' :=
  witanref29_in.calls (l.length + 1) A c l x _ w hC hc (in_f l x hl _ (by omega))
theorem taken_any (r : S69) (A : Option Addr) (c : Nat) (B : Option Addr) (cb : Nat) (set : List Int) (w : World) (hr : k33.C w A r.f2.length r.f2) (hc : r.f2.length ≤ c) (hC : ki.C w B set.length set) (hcb : set.length ≤ cb) (hl : set.length ≤ 1000000) (hL : r.f2.length ≤ 1000) (ht : ∀ y ∈ r.f2, y.f1.length ≤ 1000) :
    Calls Try.prog 42 #[.agg #[.int .i64 r.f0, .bool r.f1, .slice A r.f2.length c], .slice B set.length cb] w fun e w' => e = .returned (.bool (rtaken r set)) ∧ Below w.heap.size w w' := by
  obtain ⟨k, hk⟩ := taken_f r set hl hL ht
  exact witanref29_taken.calls k r.f0 r.f1 A c r.f2 B cb set _ w hr hc hC hcb hk

set_option maxRecDepth 100000 in
set_option maxHeartbeats 4000000 in
theorem rlost_any (R : Nat) (rows : List S69) (w : World) (ok : Nat → Prop) (hR : RefB w R ok rows) (hlen : rows.length ≤ 1000) (hll : ∀ r ∈ rows, r.f2.length ≤ 1000) (htl : ∀ r ∈ rows, ∀ y ∈ r.f2, y.f1.length ≤ 1000) :
    Calls Try.prog 13 #[.pointer (some ⟨R, 0, none⟩)] w fun e w' => ∃ A c t, Least rows (fun x => t x = true) ∧ e = .returned (.slice A (lostOf rows t).length c) ∧ Kd.N ki 3 w' w.heap.size (fun i => w.heap.size ≤ i) (.slice A (lostOf rows t).length c) (lostOf rows t) ∧ Below w.heap.size w w' := by
  have hRl := hR.lt
  obtain ⟨v, hb, hN, hn⟩ := hR
  obtain ⟨A, c, rfl, hlc, hC⟩ := Kd.N_reads hN
  have hmax := C_max hC
  have HC := Lib.hid hC
  have HB := Lib.hid hb
  have HLL := Lib.hid hll
  have HTL := Lib.hid htl
  clear hC hb hll htl
  go_enter Try.func13, Try.ntmps13
  go_wp2
  go_loopw [3, 4, 5] (fun vs vm vi W => ∃ set : List Int, Kd.N ki 3 W w.heap.size (fun i => w.heap.size ≤ i) vs set ∧ SetOk rows set ∧ Below w.heap.size w W) (fun vs vm vi _ => rows.length - sliceLen vs)
  case atStart => exact ⟨[], Kd.N_nil _ _ _ _ _, SetOk.nil rows, Below.refl _ _⟩
  case round =>
    obtain ⟨set0, hN0, hS0, hbw⟩ := hrel
    obtain ⟨wo, rfl⟩ : ∃ wo, wo = wr := ⟨_, rfl⟩
    obtain ⟨A0, c0, rfl⟩ := Kd.N_slice hN0
    go_wp2
    go_loopw [3, 4, 5] (fun vs vm vi W => ∃ (k : Nat) (b : Bool) (set : List Int), k ≤ rows.length ∧ vi = .int .i64 k ∧ vm = .bool b ∧ Kd.N ki 3 W w.heap.size (fun i => w.heap.size ≤ i) vs set ∧ SetOk rows set ∧ set0.length ≤ set.length ∧ (b = true → set0.length < set.length) ∧ (b = false → ∀ j (hj : j < k) (h : j < rows.length), set.contains rows[j].f0 = false → rtaken rows[j] set = false) ∧ Below w.heap.size w W) (fun vs vm vi _ => rows.length - (intOf vi).toNat)
    case atStart => exact ⟨0, false, set0, Nat.zero_le _, rfl, rfl, hN0, hS0, Nat.le_refl _, (fun h => by cases h), (fun _ j hj => by omega), hbw⟩
    case round =>
      obtain ⟨k, b, set, hk, rfl, rfl, hNs, hSs, hle, hlt1, hcl, hbi⟩ := hrel
      have HL1 := Lib.hid hlt1
      have HCL := Lib.hid hcl
      clear hlt1 hcl
      have hRr := (hbi.block R hRl).trans HB.out
      have cR : wr.cell? ⟨R, 0, none⟩ = some (.slice A rows.length c) := by rw [cell_blk hRr]; rfl
      have HRr := Lib.hid hRr
      clear hRr
      obtain ⟨A3, c3, rfl⟩ := Kd.N_slice hNs
      have hc3 := (Kd.N_reads' hNs).2.1
      have hC3 := (Kd.N_reads' hNs).2.2
      have hsl := hSs.le
      have hszr := hbi.size
      by_cases hlt : k < rows.length
      · obtain ⟨ab, ao, rfl, hbl, hcs⟩ := R_addr (Kd.C_below HC.out hbi) (by omega)
        obtain ⟨A1, c1, e0, e1, e2, l1, g1⟩ := hcs k hlt
        have hlk := HLL.out _ (List.getElem_mem hlt)
        have htk := HTL.out _ (List.getElem_mem hlt)
        clear hcs
        have hin := in_any A3 c3 set rows[k].f0 wr hC3 hc3 (by omega)
        cases hci : set.contains rows[k].f0 with
        | true =>
          rw [hci] at hin
          have HIN := Lib.hid hin
          have HCI := Lib.hid hci
          clear hin hci
          go_wp2_with (go_at_call 41; refine (HIN.out).mono ?_; rintro e w4 ⟨rfl, hd4⟩)
          refine ⟨?rel0, ?measure⟩
          case rel0 =>
            refine ⟨k + 1, b, set, by omega, by go_num, rfl, Kd.N_below hNs hd4.below, hSs, hle, HL1.out, ?_, hbi.trans (hd4.below.mono hszr)⟩
            intro hb j hj h hn
            by_cases e : j = k
            · subst e; rw [HCI.out] at hn; cases hn
            · exact HCL.out hb j (by omega) h hn
          case measure => simp [intOf]; omega
        | false =>
          rw [hci] at hin
          have HIN := Lib.hid hin
          have HCI := Lib.hid hci
          clear hin hci
          have htk2 : ∀ n4, Calls Try.prog 42 #[.agg #[.int .i64 rows[k].f0, .bool rows[k].f1, .slice A1 rows[k].f2.length c1], .slice A3 set.length c3] (wr.drewN n4) fun e w' => e = .returned (.bool (rtaken rows[k] set)) ∧ Below wr.heap.size wr w' := fun n4 => by
            have hd : Below wr.heap.size wr (wr.drewN n4) := pw_below_drewN (Below.refl _ _) n4
            refine (taken_any rows[k] A1 c1 A3 c3 set (wr.drewN n4) (Kd.C_below g1 hd) l1 (Kd.C_below hC3 hd) hc3 (by omega) hlk htk).mono ?_
            rintro e w' ⟨rfl, hb⟩
            exact ⟨rfl, hd.trans (hb.mono hd.size)⟩
          cases hct : rtaken rows[k] set with
          | true =>
            rw [hct] at htk2
            have HTK := Lib.hid htk2
            have HCT := Lib.hid hct
            clear htk2 hct htk
            go_wp2_with (first
              | (go_at_call 41; refine (HIN.out).mono ?_; rintro e w4 ⟨rfl, ⟨⟨n4, rfl⟩⟩⟩)
              | (go_at_call 42; refine (HTK.out _).mono ?_; rintro e w5 ⟨rfl, hb5⟩; have cR5 : w5.cell? ⟨R, 0, none⟩ = some (.slice (some ⟨ab, ao, none⟩) rows.length c) := (hb5.cell (p := ⟨R, 0, none⟩) (by simp; omega)).trans cR; have e05 : w5.cell? ⟨ab, ao + k * 3, none⟩ = some (.int .i64 rows[k].f0) := (hb5.cell (p := ⟨ab, ao + k * 3, none⟩) hbl).trans e0; have hz5 := hb5.size)
              | (at_builtin; refine Kd.N_append (w0 := w) ki w.heap.size rfl _ _ 31 3 (.int .i64 0) 8 rfl Try.underlying31 info3 rfl (by decide) (by decide) (.slice A3 set.length c3) set rows[k].f0 [.int .i64 rows[k].f0] (fun i => w.heap.size ≤ i) (fun _ => False) rfl rfl (fun W' _ => (rfl : [Value.int .i64 rows[k].f0] = [Value.int .i64 rows[k].f0])) (fun _ h => h.elim) (fun i hi => by omega) (Kd.N_below hNs hb5) (hbi.trans (hb5.mono hszr)) (by omega) (by omega) ?_; intro v6 w6 hN6 hB6 hg6 hat6))
            refine ⟨?rel0, ?measure⟩
            case rel0 =>
              refine ⟨k + 1, true, set ++ [rows[k].f0], by omega, by go_num, rfl, hN6, hSs.snoc hlt HCI.out HCT.out, by rw [List.length_append]; omega, fun _ => by rw [List.length_append, List.length_singleton]; omega, (fun h => by cases h), hB6⟩
            case measure => simp [intOf]; omega
          | false =>
            rw [hct] at htk2
            have HTK := Lib.hid htk2
            have HCT := Lib.hid hct
            clear htk2 hct htk
            go_wp2_with (first
              | (go_at_call 41; refine (HIN.out).mono ?_; rintro e w4 ⟨rfl, ⟨⟨n4, rfl⟩⟩⟩)
              | (go_at_call 42; refine (HTK.out _).mono ?_; rintro e w5 ⟨rfl, hb5⟩))
            refine ⟨?rel0, ?measure⟩
            case rel0 =>
              refine ⟨k + 1, b, set, by omega, by go_num, rfl, Kd.N_below hNs hb5, hSs, hle, HL1.out, ?_, hbi.trans (hb5.mono hszr)⟩
              intro hb j hj h hn
              by_cases e : j = k
              · subst e; exact HCT.out
              · exact HCL.out hb j (by omega) h hn
            case measure => simp [intOf]; omega
      · have hkl : k = rows.length := by omega
        subst hkl
        cases b with
        | true =>
          have hlt1 := HL1.out rfl
          go_wp2
          refine ⟨?rel0, ?measure⟩
          case rel0 => exact ⟨set, hNs, hSs, hbi⟩
          case measure => simp [sliceLen]; omega
        | false =>
          have hleast : Least rows (fun x => set.contains x = true) := hSs.least (fun j hj h => HCL.out rfl j hj hj h)
          have HLE := Lib.hid hleast
          clear hleast HL1 HCL
          obtain ⟨wp, rfl⟩ : ∃ wp, wp = wr := ⟨_, rfl⟩
          go_wp2
          go_loopw [6, 7] (fun vo vi W => ∃ k : Nat, k ≤ rows.length ∧ vi = .int .i64 k ∧ Kd.N ki 3 W wp.heap.size (fun i => wp.heap.size ≤ i) vo (lostOf (rows.take k) (fun x => set.contains x)) ∧ Below wp.heap.size wp W) (fun vo vi _ => rows.length - (intOf vi).toNat)
          case atStart => exact ⟨0, Nat.zero_le _, rfl, Kd.N_nil _ _ _ _ _, Below.refl _ _⟩
          case round =>
            obtain ⟨k, hk, rfl, hNo, hbp⟩ := hrel
            have hbr := hbi.trans (hbp.mono hszr)
            have hszp := hbp.size
            have cRr : wr.cell? ⟨R, 0, none⟩ = some (.slice A rows.length c) := (hbp.cell (p := ⟨R, 0, none⟩) (by simp; omega)).trans cR
            by_cases hlt : k < rows.length
            · obtain ⟨ab, ao, rfl, hbl, hcs⟩ := R_addr (Kd.C_below HC.out hbr) (by omega)
              obtain ⟨A1, c1, e0, e1, e2, l1, g1⟩ := hcs k hlt
              clear hcs
              have hin := in_any A3 c3 set rows[k].f0 wr (Kd.C_below hC3 hbp) hc3 (by omega)
              have hlo := lostOf_len rows (fun x => set.contains x) k
              cases hci : set.contains rows[k].f0 with
              | true =>
                rw [hci] at hin
                have HIN := Lib.hid hin
                have HCI := Lib.hid hci
                clear hin hci
                go_wp2_with (go_at_call 41; refine (HIN.out).mono ?_; rintro e w4 ⟨rfl, ⟨⟨n4, rfl⟩⟩⟩)
                refine ⟨?rel0, ?measure⟩
                case rel0 =>
                  refine ⟨k + 1, by omega, by go_num, ?_, pw_below_drewN hbp n4⟩
                  rw [lostOf_miss hlt HCI.out]; exact Kd.N_drewN hNo n4
                case measure => simp [intOf]; omega
              | false =>
                rw [hci] at hin
                have HIN := Lib.hid hin
                have HCI := Lib.hid hci
                clear hin hci
                go_wp2_with (first
                  | (go_at_call 41; refine (HIN.out).mono ?_; rintro e w4 ⟨rfl, ⟨⟨n4, rfl⟩⟩⟩; have hNo4 := Kd.N_drewN hNo n4; have hbp4 := pw_below_drewN hbp n4)
                  | (at_builtin; refine Kd.N_append (w0 := wp) ki wp.heap.size rfl _ _ 31 3 (.int .i64 0) 8 rfl Try.underlying31 info3 rfl (by decide) (by decide) u6 (lostOf (rows.take k) (fun x => set.contains x)) rows[k].f0 [.int .i64 rows[k].f0] (fun i => wp.heap.size ≤ i) (fun _ => False) rfl rfl (fun W' _ => (rfl : [Value.int .i64 rows[k].f0] = [Value.int .i64 rows[k].f0])) (fun _ h => h.elim) (fun i hi => by simp at hi; omega) hNo4 hbp4 (by simp; omega) (by omega) ?_; intro v6 w6 hN6 hB6 hg6 hat6))
                refine ⟨?rel0, ?measure⟩
                case rel0 =>
                  refine ⟨k + 1, by omega, by go_num, ?_, hB6⟩
                  rw [lostOf_hit hlt HCI.out]; exact hN6
                case measure => simp [intOf]; omega
            · have hkl : k = rows.length := by omega
              subst hkl
              rw [List.take_length] at hNo
              obtain ⟨A5, c5, rfl⟩ := Kd.N_slice hNo
              go_wp2
              go_ret
              exact ⟨A5, c5, _, HLE.out, rfl, Kd.N_mono (Kd.N_lower hNo hszr) (fun i hi => by omega), hbr⟩
end Go.Proofs.Ytbmnefdiiibabaa
