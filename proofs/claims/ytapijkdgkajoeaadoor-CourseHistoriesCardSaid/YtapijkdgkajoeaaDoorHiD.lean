/- What the law's proof leans on. Part 4 of 6. -/
import Derived.Test.YtapijkdgkajoeaaDoorHiC
section
namespace Go.Proofs.YtapijkdgkajoeaaDoor.PF
open Go.RowKit Go.Proofs.YtapijkdgkajoeaaDoorW.PrintWords Go.Proofs.YtapijkdgkajoeaaDoorW.PrintLast Go.Proofs.YtapijkdgkajoeaaDoorW.PrintMore
attribute [local go_sem] max2_int min2_int max_two min_two
set_option linter.unusedVariables false
set_option linter.unusedSimpArgs false
attribute [local go_sem high] ixA103_1
def snowlineref01_given.f (k : Nat) (a0_0 : Int) (a0_1 : Int) (l0_2 : List (S26)) (a1 : Int) (l2 : List Int) (l3 : List Int) : Option (Int) := (snowlineref01_CheckScale.f k a0_0 a0_1 l0_2).bind fun t683 => (if t683 = 0 then ((snowlineref01_Day.f a1).bind fun t684 => ((snowlineref01_Rising.f k l2).bind fun t685 => (if t684 = true then (if t685 = true then (if (l2.length : Int) = (l3.length : Int) then (some 0) else (some 1)) else (some 1)) else (some 1)))) else (some t683))
set_option maxHeartbeats 8000000 in
set_option maxRecDepth 100000 in
theorem snowlineref01_given.calls (k : Nat) (a0_0 : Int) (a0_1 : Int) (A0_2 : Option Addr) (c0_2 : Nat) (l0_2 : List (S26)) (a1 : Int) (A2 : Option Addr) (c2 : Nat) (l2 : List Int) (A3 : Option Addr) (c3 : Nat) (l3 : List Int) (r : Int) (w : World) (hr0_2 : Kd.C k26 w A0_2 l0_2.length l0_2) (hc0_2 : l0_2.length ≤ c0_2) (hr2 : Kd.C (Kd.int .i64) w A2 l2.length l2) (hc2 : l2.length ≤ c2) (hr3 : Kd.C (Kd.int .i64) w A3 l3.length l3) (hc3 : l3.length ≤ c3) (h : snowlineref01_given.f k a0_0 a0_1 l0_2 a1 l2 l3 = some r) :
  Calls Tryd.prog 99 #[.agg #[.int .i64 a0_0, .int .i64 a0_1, .slice A0_2 l0_2.length c0_2], .int .i64 a1, .slice A2 l2.length c2, .slice A3 l3.length c3] w fun e w' => e = .returned (.int .i64 r) ∧ Below w.heap.size w w' := by
 have hu24 := Tryd.underlying24
 have HR0_2 := Aside0.mk (hr0_2)
 have HC0_2 := Aside0.mk (hc0_2)
 clear hr0_2 hc0_2
 have HR2 := Aside0.mk (hr2)
 have HC2 := Aside0.mk (hc2)
 clear hr2 hc2
 have HR3 := Aside0.mk (hr3)
 have HC3 := Aside0.mk (hc3)
 clear hr3 hc3
 have HB := Bw.mk (Below.refl w.heap.size w)
 have H : ((snowlineref01_CheckScale.f k a0_0 a0_1 l0_2).bind fun t683 => (if t683 = 0 then ((snowlineref01_Day.f a1).bind fun t684 => ((snowlineref01_Rising.f k l2).bind fun t685 => (if t684 = true then (if t685 = true then (if (l2.length : Int) = (l3.length : Int) then (some 0) else (some 1)) else (some 1)) else (some 1)))) else (some t683))) = some r := h
 clear h
 replace H := Option.bind_eq_some_iff.mp H
 obtain ⟨t683, A50, H⟩ := H
 have A5 := Aside0.mk (A50)
 clear A50
 by_cases c6 : t683 = 0
 ·
  rw [if_pos c6] at H
  have c6b0 : (t683 == 0) = true := beq_iff_eq.mpr c6
  have c6b1 : (t683 != 0) = false := bne_eq_false_iff_eq.mpr c6
  clear c6
  replace H := Option.bind_eq_some_iff.mp H
  obtain ⟨t684, A70, H⟩ := H
  have A7 := Aside0.mk (A70)
  clear A70
  replace H := Option.bind_eq_some_iff.mp H
  obtain ⟨t685, A80, H⟩ := H
  have A8 := Aside0.mk (A80)
  clear A80
  by_cases c9 : t684 = true
  ·
   subst c9
   rw [if_pos rfl] at H
   by_cases c10 : t685 = true
   ·
    subst c10
    rw [if_pos rfl] at H
    by_cases c11 : (l2.length : Int) = (l3.length : Int)
    ·
     rw [if_pos c11] at H
     have c11b0 : ((l2.length : Int) == (l3.length : Int)) = true := beq_iff_eq.mpr c11
     have c11b1 : ((l2.length : Int) != (l3.length : Int)) = false := bne_eq_false_iff_eq.mpr c11
     have c11b2 : (l2.length == l3.length) = true := by first | simpa using c11 | (simp at c11 ⊢; omega)
     clear c11
     obtain rfl := Option.some.inj H
     go_enter Tryd.func99, Tryd.ntmps99
     go_wp2_with (first | ((with_reducible refine gate_dst (N := 4) rfl ?_); (try (refine gate_guard (by rfl) ?_; dsimp only)); refine bxE 4 24 #[.int .i64 a0_0, .int .i64 a0_1, .slice A0_2 l0_2.length c0_2] (by rfl) (by rfl) (by first | (go_simp; done) | (go_simp; rfl)) ?_; intro gb682 hg w12 hbox hb; have BK682 := Bk.mk (hbox); have GE682 := eB w hg; replace HB := bS w hb; clear hb hbox hg; obtain ⟨hcz13_0, hcz13_1, hcz13_2, hfz13_0, hfz13_1, hfz13_2⟩ := cz3 BK682) | ((with_reducible refine gate_callee (f := 21) rfl ?_); refine goesLM (some 13) rfl rfl Tryd.func21 (by kernel_rfl) rfl #[.agg #[.int .i64 a0_0, .int .i64 a0_1, .slice A0_2 l0_2.length c0_2]] rfl (by rfl) ?_; (with_reducible refine (snowlineref01_CheckScale.calls k a0_0 a0_1 _ _ l0_2 t683 _ ?side1 ?side2 A5.out).mono ?_); (case side1 => exact cP (Kd.C_below HR0_2.out HB.out)); (case side2 => exact HC0_2.out); rintro e w14 ⟨rfl, hb⟩; refine ⟨_, rfl, ?_⟩; replace BK682 := kB gb682 hb; replace HB := bS w hb; (try clear hb)) | ((with_reducible refine gate_callee (f := 75) rfl ?_); refine goesLM (some 18) rfl rfl Tryd.func75 (by kernel_rfl) rfl #[.int .i64 a1] rfl (by rfl) ?_; (with_reducible refine (snowlineref01_Day.calls a1 true _ A7.out).mono ?_); rintro e w' ⟨rfl, ⟨nd, rfl⟩⟩; refine ⟨_, rfl, ?_⟩) | ((with_reducible refine gate_callee (f := 102) rfl ?_); refine goesLM (some 20) rfl rfl Tryd.func102 (by kernel_rfl) rfl #[.slice A2 l2.length c2] rfl (by rfl) ?_; (with_reducible refine (snowlineref01_Rising.calls k _ _ l2 true _ ?side1 ?side2 A8.out).mono ?_); (case side1 => exact (Kd.C_below HR2.out (bw w))); (case side2 => exact HC2.out); rintro e w' ⟨rfl, ⟨nd, rfl⟩⟩; refine ⟨_, rfl, ?_⟩))
     go_ret
     exact ⟨by first | rfl | (simp [errW_none, errW_some] <;> rfl) | (simp [*, errW_none, errW_some] <;> rfl), bw w⟩
    ·
     rw [if_neg c11] at H
     have c11b0 : ((l2.length : Int) == (l3.length : Int)) = false := beq_eq_false_iff_ne.mpr c11
     have c11b1 : ((l2.length : Int) != (l3.length : Int)) = true := bne_iff_ne.mpr c11
     have c11b2 : (l2.length == l3.length) = false := by first | simpa using c11 | (simp at c11 ⊢; omega)
     obtain rfl := Option.some.inj H
     go_enter Tryd.func99, Tryd.ntmps99
     go_wp2_with (first | ((with_reducible refine gate_dst (N := 4) rfl ?_); (try (refine gate_guard (by rfl) ?_; dsimp only)); refine bxE 4 24 #[.int .i64 a0_0, .int .i64 a0_1, .slice A0_2 l0_2.length c0_2] (by rfl) (by rfl) (by first | (go_simp; done) | (go_simp; rfl)) ?_; intro gb682 hg w15 hbox hb; have BK682 := Bk.mk (hbox); have GE682 := eB w hg; replace HB := bS w hb; clear hb hbox hg; obtain ⟨hcz16_0, hcz16_1, hcz16_2, hfz16_0, hfz16_1, hfz16_2⟩ := cz3 BK682) | ((with_reducible refine gate_callee (f := 21) rfl ?_); refine goesLM (some 13) rfl rfl Tryd.func21 (by kernel_rfl) rfl #[.agg #[.int .i64 a0_0, .int .i64 a0_1, .slice A0_2 l0_2.length c0_2]] rfl (by rfl) ?_; (with_reducible refine (snowlineref01_CheckScale.calls k a0_0 a0_1 _ _ l0_2 t683 _ ?side1 ?side2 A5.out).mono ?_); (case side1 => exact cP (Kd.C_below HR0_2.out HB.out)); (case side2 => exact HC0_2.out); rintro e w17 ⟨rfl, hb⟩; refine ⟨_, rfl, ?_⟩; replace BK682 := kB gb682 hb; replace HB := bS w hb; (try clear hb)) | ((with_reducible refine gate_callee (f := 75) rfl ?_); refine goesLM (some 18) rfl rfl Tryd.func75 (by kernel_rfl) rfl #[.int .i64 a1] rfl (by rfl) ?_; (with_reducible refine (snowlineref01_Day.calls a1 true _ A7.out).mono ?_); rintro e w' ⟨rfl, ⟨nd, rfl⟩⟩; refine ⟨_, rfl, ?_⟩) | ((with_reducible refine gate_callee (f := 102) rfl ?_); refine goesLM (some 20) rfl rfl Tryd.func102 (by kernel_rfl) rfl #[.slice A2 l2.length c2] rfl (by rfl) ?_; (with_reducible refine (snowlineref01_Rising.calls k _ _ l2 true _ ?side1 ?side2 A8.out).mono ?_); (case side1 => exact (Kd.C_below HR2.out (bw w))); (case side2 => exact HC2.out); rintro e w' ⟨rfl, ⟨nd, rfl⟩⟩; refine ⟨_, rfl, ?_⟩))
     go_ret
     exact ⟨by first | rfl | (simp [errW_none, errW_some] <;> rfl) | (simp [*, errW_none, errW_some] <;> rfl), bw w⟩
   ·
    replace c10 := Bool.eq_false_iff.mpr c10
    subst c10
    rw [if_neg (show ¬ (false = true) by decide)] at H
    obtain rfl := Option.some.inj H
    go_enter Tryd.func99, Tryd.ntmps99
    go_wp2_with (first | ((with_reducible refine gate_dst (N := 4) rfl ?_); (try (refine gate_guard (by rfl) ?_; dsimp only)); refine bxE 4 24 #[.int .i64 a0_0, .int .i64 a0_1, .slice A0_2 l0_2.length c0_2] (by rfl) (by rfl) (by first | (go_simp; done) | (go_simp; rfl)) ?_; intro gb682 hg w18 hbox hb; have BK682 := Bk.mk (hbox); have GE682 := eB w hg; replace HB := bS w hb; clear hb hbox hg; obtain ⟨hcz19_0, hcz19_1, hcz19_2, hfz19_0, hfz19_1, hfz19_2⟩ := cz3 BK682) | ((with_reducible refine gate_callee (f := 21) rfl ?_); refine goesLM (some 13) rfl rfl Tryd.func21 (by kernel_rfl) rfl #[.agg #[.int .i64 a0_0, .int .i64 a0_1, .slice A0_2 l0_2.length c0_2]] rfl (by rfl) ?_; (with_reducible refine (snowlineref01_CheckScale.calls k a0_0 a0_1 _ _ l0_2 t683 _ ?side1 ?side2 A5.out).mono ?_); (case side1 => exact cP (Kd.C_below HR0_2.out HB.out)); (case side2 => exact HC0_2.out); rintro e w20 ⟨rfl, hb⟩; refine ⟨_, rfl, ?_⟩; replace BK682 := kB gb682 hb; replace HB := bS w hb; (try clear hb)) | ((with_reducible refine gate_callee (f := 75) rfl ?_); refine goesLM (some 18) rfl rfl Tryd.func75 (by kernel_rfl) rfl #[.int .i64 a1] rfl (by rfl) ?_; (with_reducible refine (snowlineref01_Day.calls a1 true _ A7.out).mono ?_); rintro e w' ⟨rfl, ⟨nd, rfl⟩⟩; refine ⟨_, rfl, ?_⟩) | ((with_reducible refine gate_callee (f := 102) rfl ?_); refine goesLM (some 20) rfl rfl Tryd.func102 (by kernel_rfl) rfl #[.slice A2 l2.length c2] rfl (by rfl) ?_; (with_reducible refine (snowlineref01_Rising.calls k _ _ l2 false _ ?side1 ?side2 A8.out).mono ?_); (case side1 => exact (Kd.C_below HR2.out (bw w))); (case side2 => exact HC2.out); rintro e w' ⟨rfl, ⟨nd, rfl⟩⟩; refine ⟨_, rfl, ?_⟩))
    go_ret
    exact ⟨by first | rfl | (simp [errW_none, errW_some] <;> rfl) | (simp [*, errW_none, errW_some] <;> rfl), bw w⟩
  ·
   replace c9 := Bool.eq_false_iff.mpr c9
   subst c9
   rw [if_neg (show ¬ (false = true) by decide)] at H
   obtain rfl := Option.some.inj H
   go_enter Tryd.func99, Tryd.ntmps99
   go_wp2_with (first | ((with_reducible refine gate_dst (N := 4) rfl ?_); (try (refine gate_guard (by rfl) ?_; dsimp only)); refine bxE 4 24 #[.int .i64 a0_0, .int .i64 a0_1, .slice A0_2 l0_2.length c0_2] (by rfl) (by rfl) (by first | (go_simp; done) | (go_simp; rfl)) ?_; intro gb682 hg w21 hbox hb; have BK682 := Bk.mk (hbox); have GE682 := eB w hg; replace HB := bS w hb; clear hb hbox hg; obtain ⟨hcz22_0, hcz22_1, hcz22_2, hfz22_0, hfz22_1, hfz22_2⟩ := cz3 BK682) | ((with_reducible refine gate_callee (f := 21) rfl ?_); refine goesLM (some 13) rfl rfl Tryd.func21 (by kernel_rfl) rfl #[.agg #[.int .i64 a0_0, .int .i64 a0_1, .slice A0_2 l0_2.length c0_2]] rfl (by rfl) ?_; (with_reducible refine (snowlineref01_CheckScale.calls k a0_0 a0_1 _ _ l0_2 t683 _ ?side1 ?side2 A5.out).mono ?_); (case side1 => exact cP (Kd.C_below HR0_2.out HB.out)); (case side2 => exact HC0_2.out); rintro e w23 ⟨rfl, hb⟩; refine ⟨_, rfl, ?_⟩; replace BK682 := kB gb682 hb; replace HB := bS w hb; (try clear hb)) | ((with_reducible refine gate_callee (f := 75) rfl ?_); refine goesLM (some 18) rfl rfl Tryd.func75 (by kernel_rfl) rfl #[.int .i64 a1] rfl (by rfl) ?_; (with_reducible refine (snowlineref01_Day.calls a1 false _ A7.out).mono ?_); rintro e w' ⟨rfl, ⟨nd, rfl⟩⟩; refine ⟨_, rfl, ?_⟩) | ((with_reducible refine gate_callee (f := 102) rfl ?_); refine goesLM (some 20) rfl rfl Tryd.func102 (by kernel_rfl) rfl #[.slice A2 l2.length c2] rfl (by rfl) ?_; (with_reducible refine (snowlineref01_Rising.calls k _ _ l2 t685 _ ?side1 ?side2 A8.out).mono ?_); (case side1 => exact (Kd.C_below HR2.out (bw w))); (case side2 => exact HC2.out); rintro e w' ⟨rfl, ⟨nd, rfl⟩⟩; refine ⟨_, rfl, ?_⟩))
   go_ret
   exact ⟨by first | rfl | (simp [errW_none, errW_some] <;> rfl) | (simp [*, errW_none, errW_some] <;> rfl), bw w⟩
 ·
  rw [if_neg c6] at H
  have c6b0 : (t683 == 0) = false := beq_eq_false_iff_ne.mpr c6
  have c6b1 : (t683 != 0) = true := bne_iff_ne.mpr c6
  obtain rfl := Option.some.inj H
  go_enter Tryd.func99, Tryd.ntmps99
  go_wp2_with (first | ((with_reducible refine gate_dst (N := 4) rfl ?_); (try (refine gate_guard (by rfl) ?_; dsimp only)); refine bxE 4 24 #[.int .i64 a0_0, .int .i64 a0_1, .slice A0_2 l0_2.length c0_2] (by rfl) (by rfl) (by first | (go_simp; done) | (go_simp; rfl)) ?_; intro gb682 hg w24 hbox hb; have BK682 := Bk.mk (hbox); have GE682 := eB w hg; replace HB := bS w hb; clear hb hbox hg; obtain ⟨hcz25_0, hcz25_1, hcz25_2, hfz25_0, hfz25_1, hfz25_2⟩ := cz3 BK682) | ((with_reducible refine gate_callee (f := 21) rfl ?_); refine goesLM (some 13) rfl rfl Tryd.func21 (by kernel_rfl) rfl #[.agg #[.int .i64 a0_0, .int .i64 a0_1, .slice A0_2 l0_2.length c0_2]] rfl (by rfl) ?_; (with_reducible refine (snowlineref01_CheckScale.calls k a0_0 a0_1 _ _ l0_2 t683 _ ?side1 ?side2 A5.out).mono ?_); (case side1 => exact cP (Kd.C_below HR0_2.out HB.out)); (case side2 => exact HC0_2.out); rintro e w26 ⟨rfl, hb⟩; refine ⟨_, rfl, ?_⟩; replace BK682 := kB gb682 hb; replace HB := bS w hb; (try clear hb)))
  go_ret
  exact ⟨by first | rfl | (simp [errW_none, errW_some] <;> rfl) | (simp [*, errW_none, errW_some] <;> rfl), bw w⟩
mutual
def snowlineref01_history.l0 : Nat → Int → List Int → List Int → Int → Int → Int → List (S26) → Option (Bool)
 | 0, _, _, _, _, _, _, _ => none
 | k + 1, x1, x2, x3, x9, x687000, x687001, x687002 => if x9 < (x2.length : Int) then (if 0 ≤ x9 then ((snowlineref01_drift.f k x687000 x687001 x687002 (rd x2 x9) x1).bind fun bt688 => (if x9 < (x3.length : Int) then (if (rd x3 x9) < bt688.1 then (snowlineref01_history.j1 k x1 x2 x3 x9 true x687000 x687001 x687002) else (snowlineref01_history.j1 k x1 x2 x3 x9 (decide ((rd x3 x9) > bt688.2)) x687000 x687001 x687002)) else (none))) else (none)) else (some true)
def snowlineref01_history.j1 : Nat → Int → List Int → List Int → Int → Bool → Int → Int → List (S26) → Option (Bool)
 | 0, _, _, _, _, _, _, _, _ => none
 | k + 1, x1, x2, x3, x9, x41, x687000, x687001, x687002 => if x41 = true then (some false) else (snowlineref01_history.l1 k x1 x2 x3 x9 0 x687000 x687001 x687002)
def snowlineref01_history.l1 : Nat → Int → List Int → List Int → Int → Int → Int → Int → List (S26) → Option (Bool)
 | 0, _, _, _, _, _, _, _, _ => none
 | k + 1, x1, x2, x3, x9, x11, x687000, x687001, x687002 => if x11 < x9 then (if 0 ≤ x9 then (if x9 < (x2.length : Int) then (if 0 ≤ x11 then (if x11 < (x2.length : Int) then ((snowlineref01_far.f (rd x2 x9) (rd x2 x11)).bind fun t695 => (if x9 < (x3.length : Int) then (if x11 < (x3.length : Int) then (if (wrap64 ((rd x3 x9) - (rd x3 x11))) > (wrap64 (x687001 * t695)) then (some false) else (if (wrap64 ((rd x3 x11) - (rd x3 x9))) > (wrap64 (x687001 * t695)) then (some false) else (snowlineref01_history.l1 k x1 x2 x3 x9 (wrap64 (x11 + 1)) x687000 x687001 x687002))) else (none)) else (none))) else (none)) else (none)) else (none)) else (none)) else (snowlineref01_history.l0 k x1 x2 x3 (wrap64 (x9 + 1)) x687000 x687001 x687002)
end
def snowlineref01_history.f (k : Nat) (a0_0 : Int) (a0_1 : Int) (l0_2 : List (S26)) (a1 : Int) (l2 : List Int) (l3 : List Int) : Option (Bool) := snowlineref01_history.l0 k a1 l2 l3 0 a0_0 a0_1 l0_2
def snowlineref01_history.T4 : Bool × List (List Nat × List Nat) := (true, [([], []), ([], []), ([], []), ([1, 2], [1, 2]), ([3], [3]), ([], []), ([0, 4, 5], [0, 4, 5]), ([], []), ([7, 6, 6, 0, 1, 2, 3, 4, 5, 6, 7], [6, 7])])
def snowlineref01_history.B4 : List Nat := [0, 0, 0, 6, 14, 0, 63, 0, 255]
theorem snowlineref01_history.tab4 : rtab .any (opsOf Tryd.f100 4) = snowlineref01_history.T4 := by kernel_rfl
theorem snowlineref01_history.bits4 : waitsOk snowlineref01_history.T4.2 snowlineref01_history.B4 = true := by kernel_rfl
def snowlineref01_history.T5 : Bool × List (List Nat × List Nat) := (true, [([], []), ([], []), ([0, 1], [0, 1]), ([2], [2]), ([], []), ([4], [4]), ([3, 5], [3, 5]), ([6], [6]), ([7], [7]), ([7], [7]), ([8, 9, 7], [7, 8, 9]), ([10, 7], [7, 10]), ([7], [7]), ([12, 7], [7, 12]), ([11, 13, 7], [7, 11, 13]), ([7, 14], [7, 14])])
def snowlineref01_history.B5 : List Nat := [0, 0, 3, 7, 0, 16, 63, 127, 255, 255, 1023, 2047, 255, 4351, 16383, 32767]
theorem snowlineref01_history.tab5 : rtab .any (opsOf Tryd.f100 5) = snowlineref01_history.T5 := by kernel_rfl
theorem snowlineref01_history.bits5 : waitsOk snowlineref01_history.T5.2 snowlineref01_history.B5 = true := by kernel_rfl
def snowlineref01_history.T10 : Bool × List (List Nat × List Nat) := (true, [([], []), ([0], [0]), ([], []), ([], []), ([2, 3], [2, 3]), ([4], [4]), ([], []), ([], []), ([6, 7], [6, 7]), ([8], [8]), ([5, 9], [5, 9]), ([1, 10], [1, 10]), ([11, 10, 0, 1, 2, 3, 4, 5, 6, 7, 8, 9, 10, 11], [11])])
def snowlineref01_history.B10 : List Nat := [0, 1, 0, 0, 12, 28, 0, 0, 192, 448, 1020, 2047, 4095]
theorem snowlineref01_history.tab10 : rtab .any (opsOf Tryd.f100 10) = snowlineref01_history.T10 := by kernel_rfl
theorem snowlineref01_history.bits10 : waitsOk snowlineref01_history.T10.2 snowlineref01_history.B10 = true := by kernel_rfl
def snowlineref01_history.T11 : Bool × List (List Nat × List Nat) := (true, [([], []), ([], []), ([0, 1], [0, 1]), ([2], [2]), ([], []), ([], []), ([4, 5], [4, 5]), ([6], [6]), ([3, 7], [3, 7]), ([], []), ([8, 9], [8, 9]), ([10], [10]), ([11], [11]), ([11], [11]), ([12, 13, 11], [11, 12, 13]), ([14, 11], [11, 14]), ([11], [11]), ([11], [11]), ([16, 17, 11], [11, 16, 17]), ([18, 11], [11, 18]), ([15, 19, 11], [11, 15, 19]), ([11], [11]), ([20, 21, 11], [11, 20, 21]), ([11, 22], [11, 22])])
def snowlineref01_history.B11 : List Nat := [0, 0, 3, 7, 0, 0, 48, 112, 255, 0, 1023, 2047, 4095, 4095, 16383, 32767, 4095, 4095, 200703, 462847, 1048575, 4095, 4194303, 8388607]
theorem snowlineref01_history.tab11 : rtab .any (opsOf Tryd.f100 11) = snowlineref01_history.T11 := by kernel_rfl
theorem snowlineref01_history.bits11 : waitsOk snowlineref01_history.T11.2 snowlineref01_history.B11 = true := by kernel_rfl
set_option maxHeartbeats 8000000 in
set_option maxRecDepth 100000 in
theorem snowlineref01_history.calls (k : Nat) (a0_0 : Int) (a0_1 : Int) (A0_2 : Option Addr) (c0_2 : Nat) (l0_2 : List (S26)) (a1 : Int) (A2 : Option Addr) (c2 : Nat) (l2 : List Int) (A3 : Option Addr) (c3 : Nat) (l3 : List Int) (r : Bool) (w : World) (hr0_2 : Kd.C k26 w A0_2 l0_2.length l0_2) (hc0_2 : l0_2.length ≤ c0_2) (hr2 : Kd.C (Kd.int .i64) w A2 l2.length l2) (hc2 : l2.length ≤ c2) (hr3 : Kd.C (Kd.int .i64) w A3 l3.length l3) (hc3 : l3.length ≤ c3) (h : snowlineref01_history.f k a0_0 a0_1 l0_2 a1 l2 l3 = some r) :
  Calls Tryd.prog 100 #[.agg #[.int .i64 a0_0, .int .i64 a0_1, .slice A0_2 l0_2.length c0_2], .int .i64 a1, .slice A2 l2.length c2, .slice A3 l3.length c3] w fun e w' => e = .returned (.bool r) ∧ Below w.heap.size w w' := by
 have hu24 := Tryd.underlying24
 have hu40 := Tryd.underlying40
 have HR0_2 := Aside0.mk (hr0_2)
 have HC0_2 := Aside0.mk (hc0_2)
 clear hr0_2 hc0_2
 have HR2 := Aside0.mk (hr2)
 have HC2 := Aside0.mk (hc2)
 clear hr2 hc2
 have HR3 := Aside0.mk (hr3)
 have HC3 := Aside0.mk (hc3)
 clear hr3 hc3
 have HB := Bw.mk (Below.refl w.heap.size w)
 have H : (snowlineref01_history.l0 k a1 l2 l3 0 a0_0 a0_1 l0_2) = some r := h
 clear h
 have H' := Aside0.mk H
 clear H
 go_enter Tryd.func100, Tryd.ntmps100
 go_wp2_with (first | ((with_reducible refine gate_dst (N := 4) rfl ?_); refine bxE 4 24 #[.int .i64 a0_0, .int .i64 a0_1, .slice A0_2 l0_2.length c0_2] (by rfl) (by rfl) (by first | (go_simp; done) | (go_simp; rfl)) ?_; intro gb686 hg w5 hbox hb; have BK686 := Bk.mk (hbox); have GE686 := eB w hg; replace HB := bS w hb; clear hb hbox hg))
 go_loopg [9] k (fun kq v9 w' => ∃ (x9_1 : Int), v9 = .int .i64 x9_1 ∧ Aside0 (snowlineref01_history.l0 kq a1 l2 l3 x9_1 a0_0 a0_1 l0_2 = some r) ∧ Aside0 (kq ≤ k) ∧ Bk w' gb686 (.cells #[.int .i64 a0_0, .int .i64 a0_1, (.slice A0_2 l0_2.length c0_2)] 24 (0, 0)) ∧ Bw w w')
 case atStart => exact ⟨(0), (by first | rfl | (simp; done) | (simp [*]; done)), H', ⟨Nat.le_refl _⟩, inferInstance, inferInstance⟩
 case round =>
  clear H'
  try clear c1
  try clear c2
  try clear p2
  try clear c3
  obtain ⟨x9_1, rfl, HA, HK1, BK686, HB⟩ := hrel
  cases gk with
  | zero => exact absurd HA.out (by simp [snowlineref01_history.l0])
  | succ k1 =>
   have H := HA.out
   clear HA
   simp only [snowlineref01_history.l0] at H
   by_cases c6 : x9_1 < (l2.length : Int)
   ·
    rw [if_pos c6] at H
    have c6b0 : decide (x9_1 < (l2.length : Int)) = true := decide_eq_true c6
    clear c6
    by_cases c7 : 0 ≤ x9_1
    ·
     rw [if_pos c7] at H
     have c7b0 : decide (0 ≤ x9_1) = true := decide_eq_true c7
     clear c7
     replace H := Option.bind_eq_some_iff.mp H
     obtain ⟨⟨t688, t689⟩, A80, H⟩ := H
     have A8 := Aside0.mk (A80)
     clear A80
     have HC9 := Aside0.mk (H)
     clear H
     try go_wp2
     have n0_ := Bk.mk (blk_drew BK686.out)
     have n1_ := Bw.mk (below_drew1 HB.out)
     clear BK686 HB
     have BK686 := n0_
     have HB := n1_
     clear n0_ n1_
     have p687 : 0 ≤ (x9_1 : Int) := of_decide_eq_true (by first | (with_reducible assumption) | assumption)
     have q687 : x9_1 < (l2.length : Int) := of_decide_eq_true (by first | (with_reducible assumption) | assumption)
     obtain ⟨ad687, e687, hx687_0⟩ := Kd.at_int HR2.out x9_1 p687 q687
     have hw687_0 := hx687_0
     cases e687
     replace hx687_0 := cB HB hx687_0
     replace p687 := eq_true p687
     replace q687 := eq_true q687
     refine start_ (n := 9) (S := fun w' => w'.cell? ⟨gb686, 0, none⟩ = some (.int .i64 a0_0) ∧ w'.cell? ⟨gb686, 1, none⟩ = some (.int .i64 a0_1) ∧ w'.cell? ⟨gb686, 2, none⟩ = some (.slice A0_2 l0_2.length c0_2) ∧ w'.cell? (ad687.add (x9_1).toNat) = some (.int .i64 (rd l2 x9_1))) (ds := []) #[false, false, false, false, false, false, false, false, false] (by kernel_rfl) rfl rfl ⟨bc BK686 0, bc BK686 1, bc BK686 2, ((HB.out.cell (World.block_lt_of_cell? w _ hw687_0)).trans hw687_0)⟩ (fun hHeld => ?_); refine with_tabW snowlineref01_history.tab4 snowlineref01_history.bits4 (fun HT_ HW_ => ?_)
     generalize wr.drew = w10 at BK686 HB hx687_0 hHeld ⊢
     refine pS 1 (some 20) rfl rfl (any_of HT_.out (by kernel_rfl)) (fun _ _ _ h => h) (by rfl) (fun w' => by go_simp; with_reducible rfl) (by simp only [Act.put, List.setIfInBounds_toArray, List.set_cons_zero, List.set_cons_succ, i64_w]; rfl) ?_
     refine pS 2 (some 21) rfl rfl (any_of HT_.out (by kernel_rfl)) (fun _ _ _ h => h) (by rfl) (fun w' => by go_simp; with_reducible rfl) (by simp only [Act.put, List.setIfInBounds_toArray, List.set_cons_zero, List.set_cons_succ, i64_w]; rfl) ?_
     refine pS 3 (some 22) rfl rfl (any_of HT_.out (by kernel_rfl)) (fun _ _ _ h => h) (by rfl) (fun w' => by go_simp; with_reducible rfl) (by simp only [Act.put, List.setIfInBounds_toArray, List.set_cons_zero, List.set_cons_succ, i64_w]; rfl) ?_
     refine pS 5 (some 24) rfl rfl (any_of HT_.out (by kernel_rfl)) (fun _ _ _ h => h) (by rfl) (fun w' => by go_simp; with_reducible rfl) (by simp only [Act.put, List.setIfInBounds_toArray, List.set_cons_zero, List.set_cons_succ, i64_w]; rfl) ?_
     refine tS 0 (some 19) rfl rfl (take_ofW HT_.out HW_.out (by kernel_rfl)) (fun _ _ _ h => h) (by rfl) (by rintro w' ⟨s0, s1, s2, s3⟩; go_simp; with_reducible rfl) hHeld (by simp only [Act.put, List.setIfInBounds_toArray, List.set_cons_zero, List.set_cons_succ, i64_w]; rfl) ?_
     refine tS 4 (some 23) rfl rfl (take_ofW HT_.out HW_.out (by kernel_rfl)) (fun _ _ _ h => h) (by rfl) (by rintro w' ⟨s0, s1, s2, s3⟩; go_simp; with_reducible rfl) hHeld (by simp only [Act.put, List.setIfInBounds_toArray, List.set_cons_zero, List.set_cons_succ, i64_w]; rfl) ?_
     refine join_ (σ := Nat) 1 #[true, true, true, true, true, true, true, true, false] (fun s_ => [(25, .agg #[.int .i64 t688, .int .i64 t689]), (10, .pointer (some ⟨s_, 0, none⟩))]) (fun s_ w' => (w'.cell? ⟨gb686, 0, none⟩ = some (.int .i64 a0_0) ∧ w'.cell? ⟨gb686, 1, none⟩ = some (.int .i64 a0_1) ∧ w'.cell? ⟨gb686, 2, none⟩ = some (.slice A0_2 l0_2.length c0_2) ∧ w'.cell? (ad687.add (x9_1).toNat) = some (.int .i64 (rd l2 x9_1))) ∧ (w'.heap[gb686]? = some (.cells #[.int .i64 a0_0, .int .i64 a0_1, .slice A0_2 l0_2.length c0_2] 24 (0, 0))) ∧ (w'.heap[s_]? = some (.cells #[.int .i64 0, .int .i64 0] 40 (0, 0))) ∧ (w.heap.size ≤ s_) ∧ (w.heap.size ≤ s_) ∧ (gb686 ≠ s_) ∧ (s_ ≠ gb686) ∧ (Below w.heap.size w w')) ?_ ?_
     rotate_left
     ·
      intro hCont
      refine two_ (i := 6) (j := 7) (Ni := some 25) (Nj := some 10) #[true, true, true, true, true, true, true, false, false] #[true, true, true, true, true, true, false, true, false] rfl rfl rfl rfl (two_of HT_.out (by kernel_rfl)) (by decide) (by decide) (fun K hK => ?_) (fun K hK => ?_)
      ·
       skip
       refine goesM Tryd.func78 (by kernel_rfl) rfl #[.agg #[.int .i64 a0_0, .int .i64 a0_1, .slice A0_2 l0_2.length c0_2], .int .i64 (rd l2 x9_1), .int .i64 a1] (by rfl) rfl rfl (by rfl) ?_
       with_reducible refine (snowlineref01_drift.calls k1 a0_0 a0_1 _ _ l0_2 (rd l2 x9_1) a1 t688 t689 _ ?side1 ?side2 A8.out).mono ?_
       (case side1 => exact cP (Kd.C_below HR0_2.out HB.out))
       (case side2 => exact HC0_2.out)
       rintro e w11 ⟨rfl, hb⟩
       refine ⟨_, rfl, ?_⟩
       replace BK686 := kB gb686 hb
       replace HB := bS w hb
       (try clear hb)
       refine hK.out _ _ ⟨bc BK686 0, bc BK686 1, bc BK686 2, ((HB.out.cell (World.block_lt_of_cell? w _ hw687_0)).trans hw687_0)⟩ (fun hHeld => ?_)
       clear hK K
       refine norm_ (a' := ?_) ?_ ?_
       rotate_left
       ·
        show Act.put _ (some 25) _ = _
        simp only [Act.put, List.setIfInBounds_toArray, List.set_cons_zero, List.set_cons_succ, i64_w]
        rfl
       refine one_ (i := 7) (N := some 10) #[true, true, true, true, true, true, true, true, false] rfl rfl (one_of HT_.out (by kernel_rfl)) (by decide) (fun K hK => ?_)
       refine box_step ?hg (N := 10) ?hd (cs := #[.int .i64 0, .int .i64 0]) (t := 40) ?hr ?_; (case hd => rfl); (case hg => rfl); (case hr => first | (go_simp; done) | (go_simp; rfl))
       intro gb690 hg w12 hbox hb
       have BK690 := Bk.mk (hbox)
       have GW690 := eB w hg
       have GE690 := eB w hg
       have NB686_690 := nB gb686 hg
       have NB690_686 := nB' gb686 hg
       replace BK686 := kB gb686 hb
       replace HB := bS w hb
       clear hb hbox hg
       refine hK.out _ _ ⟨bc BK686 0, bc BK686 1, bc BK686 2, ((HB.out.cell (World.block_lt_of_cell? w _ hw687_0)).trans hw687_0)⟩ (fun hHeld => ?_)
       clear hK K
       refine norm_ (a' := ?_) ?_ ?_
       rotate_left
       ·
        show Act.put _ (some 10) _ = _
        simp only [Act.put, List.setIfInBounds_toArray, List.set_cons_zero, List.set_cons_succ, i64_w]
        rfl
       exact norm_ (by simp only [putAll, Act.put, List.setIfInBounds_toArray, List.set_cons_zero, List.set_cons_succ]) (hCont (gb690) _ ⟨hHeld, (bk _ gb686), (bk _ gb690), GW690.out, GE690.out, NB686_690.out, NB690_686.out, (bw w)⟩)
      ·
       skip
       refine box_step ?hg (N := 10) ?hd (cs := #[.int .i64 0, .int .i64 0]) (t := 40) ?hr ?_; (case hd => rfl); (case hg => rfl); (case hr => first | (go_simp; done) | (go_simp; rfl))
       intro gb690 hg w11 hbox hb
       have BK690 := Bk.mk (hbox)
       have GW690 := eB w hg
       have GE690 := eB w hg
       have NB686_690 := nB gb686 hg
       have NB690_686 := nB' gb686 hg
       replace BK686 := kB gb686 hb
       replace HB := bS w hb
       clear hb hbox hg
       refine hK.out _ _ ⟨bc BK686 0, bc BK686 1, bc BK686 2, ((HB.out.cell (World.block_lt_of_cell? w _ hw687_0)).trans hw687_0)⟩ (fun hHeld => ?_)
       clear hK K
       refine norm_ (a' := ?_) ?_ ?_
       rotate_left
       ·
        show Act.put _ (some 10) _ = _
        simp only [Act.put, List.setIfInBounds_toArray, List.set_cons_zero, List.set_cons_succ, i64_w]
        rfl
       refine one_ (i := 6) (N := some 25) #[true, true, true, true, true, true, true, true, false] rfl rfl (one_of HT_.out (by kernel_rfl)) (by decide) (fun K hK => ?_)
       refine goesM Tryd.func78 (by kernel_rfl) rfl #[.agg #[.int .i64 a0_0, .int .i64 a0_1, .slice A0_2 l0_2.length c0_2], .int .i64 (rd l2 x9_1), .int .i64 a1] (by rfl) rfl rfl (by rfl) ?_
       with_reducible refine (snowlineref01_drift.calls k1 a0_0 a0_1 _ _ l0_2 (rd l2 x9_1) a1 t688 t689 _ ?side1 ?side2 A8.out).mono ?_
       (case side1 => exact cP (Kd.C_below HR0_2.out HB.out))
       (case side2 => exact HC0_2.out)
       rintro e w12 ⟨rfl, hb⟩
       refine ⟨_, rfl, ?_⟩
       replace BK686 := kB gb686 hb
       replace BK690 := kB gb690 hb
       replace HB := bS w hb
       (try clear hb)
       refine hK.out _ _ ⟨bc BK686 0, bc BK686 1, bc BK686 2, ((HB.out.cell (World.block_lt_of_cell? w _ hw687_0)).trans hw687_0)⟩ (fun hHeld => ?_)
       clear hK K
       refine norm_ (a' := ?_) ?_ ?_
       rotate_left
       ·
        show Act.put _ (some 25) _ = _
        simp only [Act.put, List.setIfInBounds_toArray, List.set_cons_zero, List.set_cons_succ, i64_w]
        rfl
       exact norm_ (by simp only [putAll, Act.put, List.setIfInBounds_toArray, List.set_cons_zero, List.set_cons_succ]) (hCont (gb690) _ ⟨hHeld, (bk _ gb686), (bk _ gb690), GW690.out, GE690.out, NB686_690.out, NB690_686.out, (bw w)⟩)
     rintro gb690 w13 ⟨hS_, h0_, h1_, h2_, h3_, h4_, h5_, h6_⟩
     have n0_ : Bk w13 gb686 (.cells #[.int .i64 a0_0, .int .i64 a0_1, .slice A0_2 l0_2.length c0_2] 24 (0, 0)) := ⟨h0_⟩
     have n1_ : Bk w13 gb690 (.cells #[.int .i64 0, .int .i64 0] 40 (0, 0)) := ⟨h1_⟩
     have n2_ : Ge w gb690 := ⟨h2_⟩
     have n3_ : Ge w gb690 := ⟨h3_⟩
     have n4_ : Nb gb686 gb690 := ⟨h4_⟩
     have n5_ : Nb gb690 gb686 := ⟨h5_⟩
     have n6_ : Bw w w13 := ⟨h6_⟩
     clear BK686 HB h0_ h1_ h2_ h3_ h4_ h5_ h6_
     have BK686 := n0_
     have BK690 := n1_
     have GW690 := n2_
     have GE690 := n3_
     have NB686_690 := n4_
     have NB690_686 := n5_
     have HB := n6_
     clear n0_ n1_ n2_ n3_ n4_ n5_ n6_
     have hHeld : w13.cell? ⟨gb686, 0, none⟩ = some (.int .i64 a0_0) ∧ w13.cell? ⟨gb686, 1, none⟩ = some (.int .i64 a0_1) ∧ w13.cell? ⟨gb686, 2, none⟩ = some (.slice A0_2 l0_2.length c0_2) ∧ w13.cell? (ad687.add (x9_1).toNat) = some (.int .i64 (rd l2 x9_1)) := hS_
     refine norm_ (a' := ?_) ?_ ?_
     rotate_left
     ·
      simp only [putAll, Act.put, List.setIfInBounds_toArray, List.set_cons_zero, List.set_cons_succ]
      rfl
     refine one_ (i := 8) (N := none) #[true, true, true, true, true, true, true, true, true] rfl rfl (one_of HT_.out (by kernel_rfl)) (by decide) (fun K hK => ?_)
     have hs14 : w13.cell? ⟨gb690, 0, none⟩ = some (.int .i64 0) := bc BK690 0
     have hfs14 := blk_frozen BK690.out 0
     have hns14_0 := NB686_690.out
     have hms14_0 := NB690_686.out
     have hs15 : w13.cell? ⟨gb690, 1, none⟩ = some (.int .i64 0) := bc BK690 1
     have hfs15 := blk_frozen BK690.out 1
     have hns15_0 := NB686_690.out
     have hms15_0 := NB690_686.out
     refine skip_ (w1 := ?_) (by rfl) rfl ?_ ?_
     rotate_left
     ·
      go_simp
      rfl
     refine hK.out _ _ ⟨((cell_far (p := ⟨gb690, _, none⟩) NB686_690.out _).trans (((cell_far (p := ⟨gb690, _, none⟩) NB686_690.out _).trans (hHeld.1)))), ((cell_far (p := ⟨gb690, _, none⟩) NB686_690.out _).trans (((cell_far (p := ⟨gb690, _, none⟩) NB686_690.out _).trans (hHeld.2.1)))), ((cell_far (p := ⟨gb690, _, none⟩) NB686_690.out _).trans (((cell_far (p := ⟨gb690, _, none⟩) NB686_690.out _).trans (hHeld.2.2.1)))), ((cell_far (p := ⟨gb690, _, none⟩) (by first | exact Nat.ne_of_lt (Nat.lt_of_lt_of_le (by have := World.block_lt_of_cell? _ _ hw687_0; first | rwa [add_block] at this | exact this) GW690.out) | (rw [add_block]; exact Nat.ne_of_lt (Nat.lt_of_lt_of_le (by have := World.block_lt_of_cell? _ _ hw687_0; first | rwa [add_block] at this | exact this) GW690.out)) | (show (Addr.add _ _).block ≠ _; rw [add_block]; exact Nat.ne_of_lt (Nat.lt_of_lt_of_le (by have := World.block_lt_of_cell? _ _ hw687_0; first | rwa [add_block] at this | exact this) GW690.out)) | (dsimp only; exact Nat.ne_of_lt (Nat.lt_of_lt_of_le (by have := World.block_lt_of_cell? _ _ hw687_0; first | rwa [add_block] at this | exact this) GW690.out))) _).trans (((cell_far (p := ⟨gb690, _, none⟩) (by first | exact Nat.ne_of_lt (Nat.lt_of_lt_of_le (by have := World.block_lt_of_cell? _ _ hw687_0; first | rwa [add_block] at this | exact this) GW690.out) | (rw [add_block]; exact Nat.ne_of_lt (Nat.lt_of_lt_of_le (by have := World.block_lt_of_cell? _ _ hw687_0; first | rwa [add_block] at this | exact this) GW690.out)) | (show (Addr.add _ _).block ≠ _; rw [add_block]; exact Nat.ne_of_lt (Nat.lt_of_lt_of_le (by have := World.block_lt_of_cell? _ _ hw687_0; first | rwa [add_block] at this | exact this) GW690.out)) | (dsimp only; exact Nat.ne_of_lt (Nat.lt_of_lt_of_le (by have := World.block_lt_of_cell? _ _ hw687_0; first | rwa [add_block] at this | exact this) GW690.out))) _).trans (hHeld.2.2.2))))⟩ (fun hHeld => ?_)
     clear hK K
     refine done_ (done_of HT_.out (by kernel_rfl)) ?_
     go_upto_region 5 with (fail)
     go_cut [41] (fun v41 wc => ∃ (kq : Nat) (x41_8 : Bool), v41 = .bool x41_8 ∧ Aside0 (snowlineref01_history.j1 kq a1 l2 l3 x9_1 x41_8 a0_0 a0_1 l0_2 = some r) ∧ Aside0 (kq ≤ k1) ∧ Bk wc gb686 (.cells #[.int .i64 a0_0, .int .i64 a0_1, (.slice A0_2 l0_2.length c0_2)] 24 (0, 0)) ∧ Bk wc gb690 (.cells #[.int .i64 t688, .int .i64 t689] 40 (0, 0)) ∧ Bw w wc)
     case first =>
      have H := HC9.out
      clear HC9
      by_cases c16 : x9_1 < (l3.length : Int)
      ·
       rw [if_pos c16] at H
       have c16b0 : decide (x9_1 < (l3.length : Int)) = true := decide_eq_true c16
       clear c16
       (first | rw [c16b0] | (simp only [i64_w]; rw [c16b0]) | skip)
       by_cases c17 : (rd l3 x9_1) < t688
       ·
        rw [if_pos c17] at H
        have c17b0 : decide ((rd l3 x9_1) < t688) = true := decide_eq_true c17
        clear c17
        have H' := Aside0.mk H
        clear H
        try go_wp2
        have n0_ : Bk ((w13.setCell ⟨gb690, 0, none⟩ (.int .i64 t688)).setCell ⟨gb690, 1, none⟩ (.int .i64 t689)) gb686 (.cells #[.int .i64 a0_0, .int .i64 a0_1, .slice A0_2 l0_2.length c0_2] 24 (0, 0)) := ⟨bko gb686 (by rfl)⟩
        have n1_ : Bk ((w13.setCell ⟨gb690, 0, none⟩ (.int .i64 t688)).setCell ⟨gb690, 1, none⟩ (.int .i64 t689)) gb690 (.cells #[.int .i64 t688, .int .i64 t689] 40 (0, 0)) := ⟨bko gb690 (by rfl)⟩
        have n2_ : Bw w ((w13.setCell ⟨gb690, 0, none⟩ (.int .i64 t688)).setCell ⟨gb690, 1, none⟩ (.int .i64 t689)) := inferInstance
        (try clear BK686)
        (try clear BK690)
        (try clear HB)
        generalize ((w13.setCell ⟨gb690, 0, none⟩ (.int .i64 t688)).setCell ⟨gb690, 1, none⟩ (.int .i64 t689)) = w18 at n0_ n1_ n2_ ⊢
        have BK686 := n0_
        have BK690 := n1_
        have HB := n2_
        clear n0_ n1_ n2_
        have n0_ := Bk.mk (blk_drew BK686.out)
        have n1_ := Bk.mk (blk_drew BK690.out)
        have n2_ := Bw.mk (below_drew1 HB.out)
        clear BK686 BK690 HB
        have BK686 := n0_
        have BK690 := n1_
        have HB := n2_
        clear n0_ n1_ n2_
        have p691 : 0 ≤ (x9_1 : Int) := of_decide_eq_true (by first | (with_reducible assumption) | assumption)
        have q691 : x9_1 < (l3.length : Int) := of_decide_eq_true (by first | (with_reducible assumption) | assumption)
        obtain ⟨ad691, e691, hx691_0⟩ := Kd.at_int HR3.out x9_1 p691 q691
        have hw691_0 := hx691_0
        cases e691
        replace hx691_0 := cB HB hx691_0
        replace p691 := eq_true p691
        replace q691 := eq_true q691
        refine start_ (n := 16) (S := fun w' => w'.cell? ⟨gb690, 0, none⟩ = some (.int .i64 t688) ∧ w'.cell? ⟨gb690, 1, none⟩ = some (.int .i64 t689) ∧ w'.cell? (ad691.add (x9_1).toNat) = some (.int .i64 (rd l3 x9_1))) (ds := []) #[false, false, false, false, false, false, false, false, false, false, false, false, false, false, false, false] (by kernel_rfl) rfl rfl ⟨bc BK690 0, bc BK690 1, ((HB.out.cell (World.block_lt_of_cell? w _ hw691_0)).trans hw691_0)⟩ (fun hHeld => ?_); refine with_tabW snowlineref01_history.tab5 snowlineref01_history.bits5 (fun HT_ HW_ => ?_)
        generalize w18.drew = w19 at BK686 BK690 HB hx691_0 hHeld ⊢
        refine pS 0 (some 26) rfl rfl (any_of HT_.out (by kernel_rfl)) (fun _ _ _ h => h) (by rfl) (fun w' => by go_simp; with_reducible rfl) (by simp only [Act.put, List.setIfInBounds_toArray, List.set_cons_zero, List.set_cons_succ, i64_w]; rfl) ?_
        refine pS 1 (some 27) rfl rfl (any_of HT_.out (by kernel_rfl)) (fun _ _ _ h => h) (by rfl) (fun w' => by go_simp; with_reducible rfl) (by simp only [Act.put, List.setIfInBounds_toArray, List.set_cons_zero, List.set_cons_succ, i64_w]; rfl) ?_
        refine pS 2 (some 28) rfl rfl (any_of HT_.out (by kernel_rfl)) (fun _ _ _ h => h) (by rfl) (fun w' => by go_simp; with_reducible rfl) (by simp only [Act.put, List.setIfInBounds_toArray, List.set_cons_zero, List.set_cons_succ, i64_w]; rfl) ?_
        refine pS 4 (some 30) rfl rfl (any_of HT_.out (by kernel_rfl)) (fun _ _ _ h => h) (by rfl) (fun w' => by go_simp; with_reducible rfl) (by simp only [Act.put, List.setIfInBounds_toArray, List.set_cons_zero, List.set_cons_succ, i64_w]; rfl) ?_
        refine tS 3 (some 29) rfl rfl (take_ofW HT_.out HW_.out (by kernel_rfl)) (fun _ _ _ h => h) (by rfl) (by rintro w' ⟨s0, s1, s2⟩; go_simp; with_reducible rfl) hHeld (by simp only [Act.put, List.setIfInBounds_toArray, List.set_cons_zero, List.set_cons_succ, i64_w]; rfl) ?_
        refine tS 5 (some 31) rfl rfl (take_ofW HT_.out HW_.out (by kernel_rfl)) (fun _ _ _ h => h) (by rfl) (by rintro w' ⟨s0, s1, s2⟩; go_simp; with_reducible rfl) hHeld (by simp only [Act.put, List.setIfInBounds_toArray, List.set_cons_zero, List.set_cons_succ, i64_w]; rfl) ?_
        refine pS 6 (some 32) rfl rfl (any_of HT_.out (by kernel_rfl)) (fun _ _ _ h => h) (by rfl) (fun w' => by go_simp; with_reducible rfl) (by simp only [Act.put, List.setIfInBounds_toArray, List.set_cons_zero, List.set_cons_succ, i64_w]; rfl) ?_
        refine pS 7 (some 33) rfl rfl (any_of HT_.out (by kernel_rfl)) (fun _ _ _ h => h) (by rfl) (fun w' => by go_simp; with_reducible rfl) (by simp only [Act.put, List.setIfInBounds_toArray, List.set_cons_zero, List.set_cons_succ, i64_w]; rfl) ?_
        refine pU 8 (some 34) rfl rfl (any_of HT_.out (by kernel_rfl)) (fun _ _ _ h => h) (by rfl) (by simp only [Act.put, List.setIfInBounds_toArray, List.set_cons_zero, List.set_cons_succ, i64_w]; rfl) ?_
        refine pU 9 (some 35) rfl rfl (any_of HT_.out (by kernel_rfl)) (fun _ _ _ h => h) (by rfl) (by simp only [Act.put, List.setIfInBounds_toArray, List.set_cons_zero, List.set_cons_succ, i64_w]; rfl) ?_
        refine pU 10 (some 36) rfl rfl (any_of HT_.out (by kernel_rfl)) (fun _ _ _ h => h) (by rfl) (by simp only [Act.put, List.setIfInBounds_toArray, List.set_cons_zero, List.set_cons_succ, i64_w]; rfl) ?_
        refine pU 11 (some 37) rfl rfl (any_of HT_.out (by kernel_rfl)) (fun _ _ _ h => h) (by rfl) (by simp only [Act.put, List.setIfInBounds_toArray, List.set_cons_zero, List.set_cons_succ, i64_w]; rfl) ?_
        refine pU 12 (some 38) rfl rfl (any_of HT_.out (by kernel_rfl)) (fun _ _ _ h => h) (by rfl) (by simp only [Act.put, List.setIfInBounds_toArray, List.set_cons_zero, List.set_cons_succ, i64_w]; rfl) ?_
        refine pU 13 (some 39) rfl rfl (any_of HT_.out (by kernel_rfl)) (fun _ _ _ h => h) (by rfl) (by simp only [Act.put, List.setIfInBounds_toArray, List.set_cons_zero, List.set_cons_succ, i64_w]; rfl) ?_
        refine pU 14 (some 40) rfl rfl (any_of HT_.out (by kernel_rfl)) (fun _ _ _ h => h) (by rfl) (by simp only [Act.put, List.setIfInBounds_toArray, List.set_cons_zero, List.set_cons_succ, i64_w]; rfl) ?_
        refine pS 15 (some 41) rfl rfl (any_of HT_.out (by kernel_rfl)) (fun _ _ _ h => h) (by rfl) (fun w' => by go_simp; with_reducible rfl) (by simp only [Act.put, List.setIfInBounds_toArray, List.set_cons_zero, List.set_cons_succ, i64_w]; rfl) ?_
        refine done_ (done_of HT_.out (by kernel_rfl)) ?_
        try go_wp2
        go_meet
        case rel => exact ⟨_, (true), (by first | rfl | (simp; done) | (simp [*]; done)), H', ⟨by have := HK1.out; first | omega | exact Nat.le_refl _⟩, inferInstance, inferInstance, inferInstance⟩
       ·
        rw [if_neg c17] at H
        have c17b0 : decide ((rd l3 x9_1) < t688) = false := decide_eq_false c17
        clear c17
        have H' := Aside0.mk H
        clear H
        try go_wp2
        have n0_ : Bk ((w13.setCell ⟨gb690, 0, none⟩ (.int .i64 t688)).setCell ⟨gb690, 1, none⟩ (.int .i64 t689)) gb686 (.cells #[.int .i64 a0_0, .int .i64 a0_1, .slice A0_2 l0_2.length c0_2] 24 (0, 0)) := ⟨bko gb686 (by rfl)⟩
        have n1_ : Bk ((w13.setCell ⟨gb690, 0, none⟩ (.int .i64 t688)).setCell ⟨gb690, 1, none⟩ (.int .i64 t689)) gb690 (.cells #[.int .i64 t688, .int .i64 t689] 40 (0, 0)) := ⟨bko gb690 (by rfl)⟩
        have n2_ : Bw w ((w13.setCell ⟨gb690, 0, none⟩ (.int .i64 t688)).setCell ⟨gb690, 1, none⟩ (.int .i64 t689)) := inferInstance
        (try clear BK686)
        (try clear BK690)
        (try clear HB)
        generalize ((w13.setCell ⟨gb690, 0, none⟩ (.int .i64 t688)).setCell ⟨gb690, 1, none⟩ (.int .i64 t689)) = w20 at n0_ n1_ n2_ ⊢
        have BK686 := n0_
        have BK690 := n1_
        have HB := n2_
        clear n0_ n1_ n2_
        have n0_ := Bk.mk (blk_drew BK686.out)
        have n1_ := Bk.mk (blk_drew BK690.out)
        have n2_ := Bw.mk (below_drew1 HB.out)
        clear BK686 BK690 HB
        have BK686 := n0_
        have BK690 := n1_
        have HB := n2_
        clear n0_ n1_ n2_
        have p691 : 0 ≤ (x9_1 : Int) := of_decide_eq_true (by first | (with_reducible assumption) | assumption)
        have q691 : x9_1 < (l3.length : Int) := of_decide_eq_true (by first | (with_reducible assumption) | assumption)
        obtain ⟨ad691, e691, hx691_0⟩ := Kd.at_int HR3.out x9_1 p691 q691
        have hw691_0 := hx691_0
        cases e691
        replace hx691_0 := cB HB hx691_0
        replace p691 := eq_true p691
        replace q691 := eq_true q691
        have p692 : 0 ≤ (x9_1 : Int) := of_decide_eq_true (by first | (with_reducible assumption) | assumption)
        have q692 : x9_1 < (l3.length : Int) := of_decide_eq_true (by first | (with_reducible assumption) | assumption)
        obtain ⟨ad692, e692, hx692_0⟩ := Kd.at_int HR3.out x9_1 p692 q692
        have hw692_0 := hx692_0
        obtain rfl : ad691 = ad692 := (by injection e692)
        replace hx692_0 := cB HB hx692_0
        replace p692 := eq_true p692
        replace q692 := eq_true q692
        refine start_ (n := 16) (S := fun w' => w'.cell? ⟨gb690, 0, none⟩ = some (.int .i64 t688) ∧ w'.cell? ⟨gb690, 1, none⟩ = some (.int .i64 t689) ∧ w'.cell? (ad691.add (x9_1).toNat) = some (.int .i64 (rd l3 x9_1)) ∧ w'.cell? (ad691.add (x9_1).toNat) = some (.int .i64 (rd l3 x9_1))) (ds := []) #[false, false, false, false, false, false, false, false, false, false, false, false, false, false, false, false] (by kernel_rfl) rfl rfl ⟨bc BK690 0, bc BK690 1, ((HB.out.cell (World.block_lt_of_cell? w _ hw691_0)).trans hw691_0), ((HB.out.cell (World.block_lt_of_cell? w _ hw692_0)).trans hw692_0)⟩ (fun hHeld => ?_); refine with_tabW snowlineref01_history.tab5 snowlineref01_history.bits5 (fun HT_ HW_ => ?_)
        generalize w20.drew = w21 at BK686 BK690 HB hx691_0 hx692_0 hHeld ⊢
        refine pS 0 (some 26) rfl rfl (any_of HT_.out (by kernel_rfl)) (fun _ _ _ h => h) (by rfl) (fun w' => by go_simp; with_reducible rfl) (by simp only [Act.put, List.setIfInBounds_toArray, List.set_cons_zero, List.set_cons_succ, i64_w]; rfl) ?_
        refine pS 1 (some 27) rfl rfl (any_of HT_.out (by kernel_rfl)) (fun _ _ _ h => h) (by rfl) (fun w' => by go_simp; with_reducible rfl) (by simp only [Act.put, List.setIfInBounds_toArray, List.set_cons_zero, List.set_cons_succ, i64_w]; rfl) ?_
        refine pS 2 (some 28) rfl rfl (any_of HT_.out (by kernel_rfl)) (fun _ _ _ h => h) (by rfl) (fun w' => by go_simp; with_reducible rfl) (by simp only [Act.put, List.setIfInBounds_toArray, List.set_cons_zero, List.set_cons_succ, i64_w]; rfl) ?_
        refine pS 4 (some 30) rfl rfl (any_of HT_.out (by kernel_rfl)) (fun _ _ _ h => h) (by rfl) (fun w' => by go_simp; with_reducible rfl) (by simp only [Act.put, List.setIfInBounds_toArray, List.set_cons_zero, List.set_cons_succ, i64_w]; rfl) ?_
        refine tS 3 (some 29) rfl rfl (take_ofW HT_.out HW_.out (by kernel_rfl)) (fun _ _ _ h => h) (by rfl) (by rintro w' ⟨s0, s1, s2, s3⟩; go_simp; with_reducible rfl) hHeld (by simp only [Act.put, List.setIfInBounds_toArray, List.set_cons_zero, List.set_cons_succ, i64_w]; rfl) ?_
        refine tS 5 (some 31) rfl rfl (take_ofW HT_.out HW_.out (by kernel_rfl)) (fun _ _ _ h => h) (by rfl) (by rintro w' ⟨s0, s1, s2, s3⟩; go_simp; with_reducible rfl) hHeld (by simp only [Act.put, List.setIfInBounds_toArray, List.set_cons_zero, List.set_cons_succ, i64_w]; rfl) ?_
        refine pS 6 (some 32) rfl rfl (any_of HT_.out (by kernel_rfl)) (fun _ _ _ h => h) (by rfl) (fun w' => by go_simp; with_reducible rfl) (by simp only [Act.put, List.setIfInBounds_toArray, List.set_cons_zero, List.set_cons_succ, i64_w]; rfl) ?_
        refine pS 7 (some 33) rfl rfl (any_of HT_.out (by kernel_rfl)) (fun _ _ _ h => h) (by rfl) (fun w' => by go_simp; with_reducible rfl) (by simp only [Act.put, List.setIfInBounds_toArray, List.set_cons_zero, List.set_cons_succ, i64_w]; rfl) ?_
        refine pS 8 (some 34) rfl rfl (any_of HT_.out (by kernel_rfl)) (fun _ _ _ h => h) (by rfl) (fun w' => by go_simp; with_reducible rfl) (by simp only [Act.put, List.setIfInBounds_toArray, List.set_cons_zero, List.set_cons_succ, i64_w]; rfl) ?_
        refine pS 9 (some 35) rfl rfl (any_of HT_.out (by kernel_rfl)) (fun _ _ _ h => h) (by rfl) (fun w' => by go_simp; with_reducible rfl) (by simp only [Act.put, List.setIfInBounds_toArray, List.set_cons_zero, List.set_cons_succ, i64_w]; rfl) ?_
        refine pS 10 (some 36) rfl rfl (any_of HT_.out (by kernel_rfl)) (fun _ _ _ h => h) (by rfl) (fun w' => by go_simp; with_reducible rfl) (by simp only [Act.put, List.setIfInBounds_toArray, List.set_cons_zero, List.set_cons_succ, i64_w]; rfl) ?_
        refine pS 12 (some 38) rfl rfl (any_of HT_.out (by kernel_rfl)) (fun _ _ _ h => h) (by rfl) (fun w' => by go_simp; with_reducible rfl) (by simp only [Act.put, List.setIfInBounds_toArray, List.set_cons_zero, List.set_cons_succ, i64_w]; rfl) ?_
        refine tS 11 (some 37) rfl rfl (take_ofW HT_.out HW_.out (by kernel_rfl)) (fun _ _ _ h => h) (by rfl) (by rintro w' ⟨s0, s1, s2, s3⟩; go_simp; with_reducible rfl) hHeld (by simp only [Act.put, List.setIfInBounds_toArray, List.set_cons_zero, List.set_cons_succ, i64_w]; rfl) ?_
        refine tS 13 (some 39) rfl rfl (take_ofW HT_.out HW_.out (by kernel_rfl)) (fun _ _ _ h => h) (by rfl) (by rintro w' ⟨s0, s1, s2, s3⟩; go_simp; with_reducible rfl) hHeld (by simp only [Act.put, List.setIfInBounds_toArray, List.set_cons_zero, List.set_cons_succ, i64_w]; rfl) ?_
        refine pS 14 (some 40) rfl rfl (any_of HT_.out (by kernel_rfl)) (fun _ _ _ h => h) (by rfl) (fun w' => by go_simp; with_reducible rfl) (by simp only [Act.put, List.setIfInBounds_toArray, List.set_cons_zero, List.set_cons_succ, i64_w]; rfl) ?_
        refine pS 15 (some 41) rfl rfl (any_of HT_.out (by kernel_rfl)) (fun _ _ _ h => h) (by rfl) (fun w' => by go_simp; with_reducible rfl) (by simp only [Act.put, List.setIfInBounds_toArray, List.set_cons_zero, List.set_cons_succ, i64_w]; rfl) ?_
        refine done_ (done_of HT_.out (by kernel_rfl)) ?_
        try go_wp2
        go_meet
        case rel => exact ⟨_, (decide ((rd l3 x9_1) > t689)), (by first | rfl | (simp; done) | (simp [*]; done)), H', ⟨by have := HK1.out; first | omega | exact Nat.le_refl _⟩, inferInstance, inferInstance, inferInstance⟩
      ·
       rw [if_neg c16] at H
       exact absurd H (by simp)
     case rest =>
      clear HC9
      try clear c1
      try clear c2
      try clear p2
      try clear c3
      try clear c6
      try clear c6b0
      try clear p6
      try clear q6
      try clear hx6
      try clear c7
      try clear c7b0
      try clear c10
      try clear c16
      try clear c16b0
      try clear c17
      try clear c17b0
      try clear hx687_0
      try clear hx691_0
      try clear hx692_0
      try clear p2
      try clear p687
      try clear p691
      try clear p692
      try clear q687
      try clear q691
      try clear q692
      obtain ⟨kq, x41_8, rfl, HA, HJ8, BK686, BK690, HB⟩ := hcut
      cases kq with
      | zero => exact absurd HA.out (by simp [snowlineref01_history.j1])
      | succ kj8 =>
       have H := HA.out
       clear HA
       simp only [snowlineref01_history.j1] at H
       by_cases c22 : x41_8 = true
       ·
        subst c22
        rw [if_pos rfl] at H
        obtain rfl := Option.some.inj H
        go_wp2
        go_ret
        exact ⟨by first | rfl | (simp [errW_none, errW_some] <;> rfl) | (simp [*, errW_none, errW_some] <;> rfl), bw w⟩
       ·
        replace c22 := Bool.eq_false_iff.mpr c22
        subst c22
        rw [if_neg (show ¬ (false = true) by decide)] at H
        have H' := Aside0.mk H
        clear H
        go_wp2
        go_loopg [11] kj8 (fun kq v11 w' => ∃ (x11_3 : Int), v11 = .int .i64 x11_3 ∧ Aside0 (snowlineref01_history.l1 kq a1 l2 l3 x9_1 x11_3 a0_0 a0_1 l0_2 = some r) ∧ Aside0 (kq ≤ kj8) ∧ Bk w' gb686 (.cells #[.int .i64 a0_0, .int .i64 a0_1, (.slice A0_2 l0_2.length c0_2)] 24 (0, 0)) ∧ Bk w' gb690 (.cells #[.int .i64 t688, .int .i64 t689] 40 (0, 0)) ∧ Bw w w')
        case atStart => exact ⟨(0), (by first | rfl | (simp; done) | (simp [*]; done)), H', ⟨Nat.le_refl _⟩, inferInstance, inferInstance, inferInstance⟩
        case round =>
         clear H'
         try clear c1
         try clear c2
         try clear p2
         try clear c3
         try clear c6
         try clear c6b0
         try clear p6
         try clear q6
         try clear hx6
         try clear c7
         try clear c7b0
         try clear c10
         try clear c16
         try clear c16b0
         try clear c17
         try clear c17b0
         try clear c22
         try clear hx687_0
         try clear hx691_0
         try clear hx692_0
         try clear p2
         try clear p6
         try clear p687
         try clear p691
         try clear p692
         try clear q6
         try clear q687
         try clear q691
         try clear q692
         obtain ⟨x11_3, rfl, HA, HK3, BK686, BK690, HB⟩ := hrel
         cases gk with
         | zero => exact absurd HA.out (by simp [snowlineref01_history.l1])
         | succ k3 =>
          have H := HA.out
          clear HA
          simp only [snowlineref01_history.l1] at H
          by_cases c23 : x11_3 < x9_1
          ·
           rw [if_pos c23] at H
           have c23b0 : decide (x11_3 < x9_1) = true := decide_eq_true c23
           clear c23
           by_cases c24 : 0 ≤ x9_1
           ·
            rw [if_pos c24] at H
            have c24b0 : decide (0 ≤ x9_1) = true := decide_eq_true c24
            clear c24
            by_cases c25 : x9_1 < (l2.length : Int)
            ·
             rw [if_pos c25] at H
             have c25b0 : decide (x9_1 < (l2.length : Int)) = true := decide_eq_true c25
             clear c25
             by_cases c26 : 0 ≤ x11_3
             ·
              rw [if_pos c26] at H
              have c26b0 : decide (0 ≤ x11_3) = true := decide_eq_true c26
              clear c26
              by_cases c27 : x11_3 < (l2.length : Int)
              ·
               rw [if_pos c27] at H
               have c27b0 : decide (x11_3 < (l2.length : Int)) = true := decide_eq_true c27
               clear c27
               replace H := Option.bind_eq_some_iff.mp H
               obtain ⟨t695, A280, H⟩ := H
               have A28 := Aside0.mk (A280)
               clear A280
               by_cases c29 : x9_1 < (l3.length : Int)
               ·
                rw [if_pos c29] at H
                have c29b0 : decide (x9_1 < (l3.length : Int)) = true := decide_eq_true c29
                clear c29
                by_cases c30 : x11_3 < (l3.length : Int)
                ·
                 rw [if_pos c30] at H
                 have c30b0 : decide (x11_3 < (l3.length : Int)) = true := decide_eq_true c30
                 clear c30
                 by_cases c31 : (wrap64 ((rd l3 x9_1) - (rd l3 x11_3))) > (wrap64 (a0_1 * t695))
                 ·
                  rw [if_pos c31] at H
                  have c31b0 : decide ((wrap64 (a0_1 * t695)) < (wrap64 ((rd l3 x9_1) - (rd l3 x11_3)))) = true := decide_eq_true c31
                  clear c31
                  obtain rfl := Option.some.inj H
                  try go_wp2
                  have n0_ := Bk.mk (blk_drew BK686.out)
                  have n1_ := Bk.mk (blk_drew BK690.out)
                  have n2_ := Bw.mk (below_drew1 HB.out)
                  clear BK686 BK690 HB
                  have BK686 := n0_
                  have BK690 := n1_
                  have HB := n2_
                  clear n0_ n1_ n2_
                  have p693 : 0 ≤ (x9_1 : Int) := of_decide_eq_true (by first | (with_reducible assumption) | assumption)
                  have q693 : x9_1 < (l2.length : Int) := of_decide_eq_true (by first | (with_reducible assumption) | assumption)
                  obtain ⟨ad693, e693, hx693_0⟩ := Kd.at_int HR2.out x9_1 p693 q693
                  have hw693_0 := hx693_0
                  obtain rfl : ad687 = ad693 := (by injection e693)
                  replace hx693_0 := cB HB hx693_0
                  replace p693 := eq_true p693
                  replace q693 := eq_true q693
                  have p694 : 0 ≤ (x11_3 : Int) := of_decide_eq_true (by first | (with_reducible assumption) | assumption)
                  have q694 : x11_3 < (l2.length : Int) := of_decide_eq_true (by first | (with_reducible assumption) | assumption)
                  obtain ⟨ad694, e694, hx694_0⟩ := Kd.at_int HR2.out x11_3 p694 q694
                  have hw694_0 := hx694_0
                  obtain rfl : ad687 = ad694 := (by injection e694)
                  replace hx694_0 := cB HB hx694_0
                  replace p694 := eq_true p694
                  replace q694 := eq_true q694
                  refine start_ (n := 13) (S := fun w' => w'.cell? ⟨gb686, 0, none⟩ = some (.int .i64 a0_0) ∧ w'.cell? ⟨gb686, 1, none⟩ = some (.int .i64 a0_1) ∧ w'.cell? ⟨gb686, 2, none⟩ = some (.slice A0_2 l0_2.length c0_2) ∧ w'.cell? (ad687.add (x9_1).toNat) = some (.int .i64 (rd l2 x9_1)) ∧ w'.cell? (ad687.add (x11_3).toNat) = some (.int .i64 (rd l2 x11_3))) (ds := []) #[false, false, false, false, false, false, false, false, false, false, false, false, false] (by kernel_rfl) rfl rfl ⟨bc BK686 0, bc BK686 1, bc BK686 2, ((HB.out.cell (World.block_lt_of_cell? w _ hw693_0)).trans hw693_0), ((HB.out.cell (World.block_lt_of_cell? w _ hw694_0)).trans hw694_0)⟩ (fun hHeld => ?_); refine with_tabW snowlineref01_history.tab10 snowlineref01_history.bits10 (fun HT_ HW_ => ?_)
                  generalize wr.drew = w32 at BK686 BK690 HB hx693_0 hx694_0 hHeld ⊢
                  refine pS 0 (some 47) rfl rfl (any_of HT_.out (by kernel_rfl)) (fun _ _ _ h => h) (by rfl) (fun w' => by go_simp; with_reducible rfl) (by simp only [Act.put, List.setIfInBounds_toArray, List.set_cons_zero, List.set_cons_succ, i64_w]; rfl) ?_
                  refine pS 2 (some 49) rfl rfl (any_of HT_.out (by kernel_rfl)) (fun _ _ _ h => h) (by rfl) (fun w' => by go_simp; with_reducible rfl) (by simp only [Act.put, List.setIfInBounds_toArray, List.set_cons_zero, List.set_cons_succ, i64_w]; rfl) ?_
                  refine pS 3 (some 50) rfl rfl (any_of HT_.out (by kernel_rfl)) (fun _ _ _ h => h) (by rfl) (fun w' => by go_simp; with_reducible rfl) (by simp only [Act.put, List.setIfInBounds_toArray, List.set_cons_zero, List.set_cons_succ, i64_w]; rfl) ?_
                  refine pS 4 (some 51) rfl rfl (any_of HT_.out (by kernel_rfl)) (fun _ _ _ h => h) (by rfl) (fun w' => by go_simp; with_reducible rfl) (by simp only [Act.put, List.setIfInBounds_toArray, List.set_cons_zero, List.set_cons_succ, i64_w]; rfl) ?_
                  refine pS 6 (some 53) rfl rfl (any_of HT_.out (by kernel_rfl)) (fun _ _ _ h => h) (by rfl) (fun w' => by go_simp; with_reducible rfl) (by simp only [Act.put, List.setIfInBounds_toArray, List.set_cons_zero, List.set_cons_succ, i64_w]; rfl) ?_
                  refine pS 7 (some 54) rfl rfl (any_of HT_.out (by kernel_rfl)) (fun _ _ _ h => h) (by rfl) (fun w' => by go_simp; with_reducible rfl) (by simp only [Act.put, List.setIfInBounds_toArray, List.set_cons_zero, List.set_cons_succ, i64_w]; rfl) ?_
                  refine pS 8 (some 55) rfl rfl (any_of HT_.out (by kernel_rfl)) (fun _ _ _ h => h) (by rfl) (fun w' => by go_simp; with_reducible rfl) (by simp only [Act.put, List.setIfInBounds_toArray, List.set_cons_zero, List.set_cons_succ, i64_w]; rfl) ?_
                  refine tS 1 (some 48) rfl rfl (take_ofW HT_.out HW_.out (by kernel_rfl)) (fun _ _ _ h => h) (by rfl) (by rintro w' ⟨s0, s1, s2, s3, s4⟩; go_simp; with_reducible rfl) hHeld (by simp only [Act.put, List.setIfInBounds_toArray, List.set_cons_zero, List.set_cons_succ, i64_w]; rfl) ?_
                  refine tS 5 (some 52) rfl rfl (take_ofW HT_.out HW_.out (by kernel_rfl)) (fun _ _ _ h => h) (by rfl) (by rintro w' ⟨s0, s1, s2, s3, s4⟩; go_simp; with_reducible rfl) hHeld (by simp only [Act.put, List.setIfInBounds_toArray, List.set_cons_zero, List.set_cons_succ, i64_w]; rfl) ?_
                  refine tS 9 (some 56) rfl rfl (take_ofW HT_.out HW_.out (by kernel_rfl)) (fun _ _ _ h => h) (by rfl) (by rintro w' ⟨s0, s1, s2, s3, s4⟩; go_simp; with_reducible rfl) hHeld (by simp only [Act.put, List.setIfInBounds_toArray, List.set_cons_zero, List.set_cons_succ, i64_w]; rfl) ?_
                  refine one_ (i := 10) (N := some 57) #[true, true, true, true, true, true, true, true, true, true, true, false, false] rfl rfl (one_of HT_.out (by kernel_rfl)) (by decide) (fun K hK => ?_)
                  refine goesM Tryd.func103 (by kernel_rfl) rfl #[.int .i64 (rd l2 x9_1), .int .i64 (rd l2 x11_3)] (by rfl) rfl rfl (by rfl) ?_
                  with_reducible refine (snowlineref01_far.calls (rd l2 x9_1) (rd l2 x11_3) t695 _ A28.out).mono ?_
                  rintro e w' ⟨rfl, ⟨nd, rfl⟩⟩
                  refine ⟨_, rfl, ?_⟩
                  refine hK.out _ _ ⟨bc BK686 0, bc BK686 1, bc BK686 2, ((HB.out.cell (World.block_lt_of_cell? w _ hw693_0)).trans hw693_0), ((HB.out.cell (World.block_lt_of_cell? w _ hw694_0)).trans hw694_0)⟩ (fun hHeld => ?_)
                  clear hK K
                  refine norm_ (a' := ?_) ?_ ?_
                  rotate_left
                  ·
                   show Act.put _ (some 57) _ = _
                   simp only [Act.put, List.setIfInBounds_toArray, List.set_cons_zero, List.set_cons_succ, i64_w]
                   rfl
                  refine pS 11 (some 58) rfl rfl (any_of HT_.out (by kernel_rfl)) (fun _ _ _ h => h) (by rfl) (fun w' => by go_simp; with_reducible rfl) (by simp only [Act.put, List.setIfInBounds_toArray, List.set_cons_zero, List.set_cons_succ, i64_w]; rfl) ?_
                  refine pS 12 (some 12) rfl rfl (any_of HT_.out (by kernel_rfl)) (fun _ _ _ h => h) (by rfl) (fun w' => by go_simp; with_reducible rfl) (by simp only [Act.put, List.setIfInBounds_toArray, List.set_cons_zero, List.set_cons_succ, i64_w]; rfl) ?_
                  refine done_ (done_of HT_.out (by kernel_rfl)) ?_
                  try go_wp2
                  (try (rw [drewN_self w32]; generalize hq_ : World.drewN w32 _ = w32; have n0_ : Bk w32 gb686 (.cells #[.int .i64 a0_0, .int .i64 a0_1, .slice A0_2 l0_2.length c0_2] 24 (0, 0)) := ⟨by rw [← hq_]; exact (bk _ gb686)⟩; have n1_ : Bk w32 gb690 (.cells #[.int .i64 t688, .int .i64 t689] 40 (0, 0)) := ⟨by rw [← hq_]; exact (bk _ gb690)⟩; have n2_ : Bw w w32 := ⟨by rw [← hq_]; exact (bw w)⟩; clear BK686 BK690 HB hq_; have BK686 := n0_; have BK690 := n1_; have HB := n2_; clear n0_ n1_ n2_))
                  have n0_ := Bk.mk (blk_drew BK686.out)
                  have n1_ := Bk.mk (blk_drew BK690.out)
                  have n2_ := Bw.mk (below_drew1 HB.out)
                  clear BK686 BK690 HB
                  have BK686 := n0_
                  have BK690 := n1_
                  have HB := n2_
                  clear n0_ n1_ n2_
                  have p696 : 0 ≤ (x9_1 : Int) := of_decide_eq_true (by first | (with_reducible assumption) | assumption)
                  have q696 : x9_1 < (l3.length : Int) := of_decide_eq_true (by first | (with_reducible assumption) | assumption)
                  obtain ⟨ad696, e696, hx696_0⟩ := Kd.at_int HR3.out x9_1 p696 q696
                  have hw696_0 := hx696_0
                  cases e696
                  replace hx696_0 := cB HB hx696_0
                  replace p696 := eq_true p696
                  replace q696 := eq_true q696
                  have p697 : 0 ≤ (x11_3 : Int) := of_decide_eq_true (by first | (with_reducible assumption) | assumption)
                  have q697 : x11_3 < (l3.length : Int) := of_decide_eq_true (by first | (with_reducible assumption) | assumption)
                  obtain ⟨ad697, e697, hx697_0⟩ := Kd.at_int HR3.out x11_3 p697 q697
                  have hw697_0 := hx697_0
                  obtain rfl : ad696 = ad697 := (by injection e697)
                  replace hx697_0 := cB HB hx697_0
                  replace p697 := eq_true p697
                  replace q697 := eq_true q697
                  refine start_ (n := 24) (S := fun w' => w'.cell? (ad696.add (x9_1).toNat) = some (.int .i64 (rd l3 x9_1)) ∧ w'.cell? (ad696.add (x11_3).toNat) = some (.int .i64 (rd l3 x11_3))) (ds := []) #[false, false, false, false, false, false, false, false, false, false, false, false, false, false, false, false, false, false, false, false, false, false, false, false] (by kernel_rfl) rfl rfl ⟨((HB.out.cell (World.block_lt_of_cell? w _ hw696_0)).trans hw696_0), ((HB.out.cell (World.block_lt_of_cell? w _ hw697_0)).trans hw697_0)⟩ (fun hHeld => ?_); refine with_tabW snowlineref01_history.tab11 snowlineref01_history.bits11 (fun HT_ HW_ => ?_)
                  generalize w32.drew = w33 at BK686 BK690 HB hx696_0 hx697_0 hHeld ⊢
                  refine pS 0 (some 59) rfl rfl (any_of HT_.out (by kernel_rfl)) (fun _ _ _ h => h) (by rfl) (fun w' => by go_simp; with_reducible rfl) (by simp only [Act.put, List.setIfInBounds_toArray, List.set_cons_zero, List.set_cons_succ, i64_w]; rfl) ?_
                  refine pS 1 (some 60) rfl rfl (any_of HT_.out (by kernel_rfl)) (fun _ _ _ h => h) (by rfl) (fun w' => by go_simp; with_reducible rfl) (by simp only [Act.put, List.setIfInBounds_toArray, List.set_cons_zero, List.set_cons_succ, i64_w]; rfl) ?_
                  refine pS 2 (some 61) rfl rfl (any_of HT_.out (by kernel_rfl)) (fun _ _ _ h => h) (by rfl) (fun w' => by go_simp; with_reducible rfl) (by simp only [Act.put, List.setIfInBounds_toArray, List.set_cons_zero, List.set_cons_succ, i64_w]; rfl) ?_
                  refine pS 4 (some 63) rfl rfl (any_of HT_.out (by kernel_rfl)) (fun _ _ _ h => h) (by rfl) (fun w' => by go_simp; with_reducible rfl) (by simp only [Act.put, List.setIfInBounds_toArray, List.set_cons_zero, List.set_cons_succ, i64_w]; rfl) ?_
                  refine pS 5 (some 64) rfl rfl (any_of HT_.out (by kernel_rfl)) (fun _ _ _ h => h) (by rfl) (fun w' => by go_simp; with_reducible rfl) (by simp only [Act.put, List.setIfInBounds_toArray, List.set_cons_zero, List.set_cons_succ, i64_w]; rfl) ?_
                  refine pS 6 (some 65) rfl rfl (any_of HT_.out (by kernel_rfl)) (fun _ _ _ h => h) (by rfl) (fun w' => by go_simp; with_reducible rfl) (by simp only [Act.put, List.setIfInBounds_toArray, List.set_cons_zero, List.set_cons_succ, i64_w]; rfl) ?_
                  refine pS 9 (some 68) rfl rfl (any_of HT_.out (by kernel_rfl)) (fun _ _ _ h => h) (by rfl) (fun w' => by go_simp; with_reducible rfl) (by simp only [Act.put, List.setIfInBounds_toArray, List.set_cons_zero, List.set_cons_succ, i64_w]; rfl) ?_
                  refine tS 3 (some 62) rfl rfl (take_ofW HT_.out HW_.out (by kernel_rfl)) (fun _ _ _ h => h) (by rfl) (by rintro w' ⟨s0, s1⟩; go_simp; with_reducible rfl) hHeld (by simp only [Act.put, List.setIfInBounds_toArray, List.set_cons_zero, List.set_cons_succ, i64_w]; rfl) ?_
                  refine tS 7 (some 66) rfl rfl (take_ofW HT_.out HW_.out (by kernel_rfl)) (fun _ _ _ h => h) (by rfl) (by rintro w' ⟨s0, s1⟩; go_simp; with_reducible rfl) hHeld (by simp only [Act.put, List.setIfInBounds_toArray, List.set_cons_zero, List.set_cons_succ, i64_w]; rfl) ?_
                  refine pS 8 (some 67) rfl rfl (any_of HT_.out (by kernel_rfl)) (fun _ _ _ h => h) (by rfl) (fun w' => by go_simp; with_reducible rfl) (by simp only [Act.put, List.setIfInBounds_toArray, List.set_cons_zero, List.set_cons_succ, i64_w]; rfl) ?_
                  refine pS 10 (some 69) rfl rfl (any_of HT_.out (by kernel_rfl)) (fun _ _ _ h => h) (by rfl) (fun w' => by go_simp; with_reducible rfl) (by simp only [Act.put, List.setIfInBounds_toArray, List.set_cons_zero, List.set_cons_succ, i64_w]; rfl) ?_
                  refine pS 11 (some 70) rfl rfl (any_of HT_.out (by kernel_rfl)) (fun _ _ _ h => h) (by rfl) (fun w' => by go_simp; with_reducible rfl) (by simp only [Act.put, List.setIfInBounds_toArray, List.set_cons_zero, List.set_cons_succ, i64_w]; rfl) ?_
                  refine pU 12 (some 71) rfl rfl (any_of HT_.out (by kernel_rfl)) (fun _ _ _ h => h) (by rfl) (by simp only [Act.put, List.setIfInBounds_toArray, List.set_cons_zero, List.set_cons_succ, i64_w]; rfl) ?_
                  refine pU 13 (some 72) rfl rfl (any_of HT_.out (by kernel_rfl)) (fun _ _ _ h => h) (by rfl) (by simp only [Act.put, List.setIfInBounds_toArray, List.set_cons_zero, List.set_cons_succ, i64_w]; rfl) ?_
                  refine pU 14 (some 73) rfl rfl (any_of HT_.out (by kernel_rfl)) (fun _ _ _ h => h) (by rfl) (by simp only [Act.put, List.setIfInBounds_toArray, List.set_cons_zero, List.set_cons_succ, i64_w]; rfl) ?_
                  refine pU 15 (some 74) rfl rfl (any_of HT_.out (by kernel_rfl)) (fun _ _ _ h => h) (by rfl) (by simp only [Act.put, List.setIfInBounds_toArray, List.set_cons_zero, List.set_cons_succ, i64_w]; rfl) ?_
                  refine pU 16 (some 75) rfl rfl (any_of HT_.out (by kernel_rfl)) (fun _ _ _ h => h) (by rfl) (by simp only [Act.put, List.setIfInBounds_toArray, List.set_cons_zero, List.set_cons_succ, i64_w]; rfl) ?_
                  refine pU 17 (some 76) rfl rfl (any_of HT_.out (by kernel_rfl)) (fun _ _ _ h => h) (by rfl) (by simp only [Act.put, List.setIfInBounds_toArray, List.set_cons_zero, List.set_cons_succ, i64_w]; rfl) ?_
                  refine pU 18 (some 77) rfl rfl (any_of HT_.out (by kernel_rfl)) (fun _ _ _ h => h) (by rfl) (by simp only [Act.put, List.setIfInBounds_toArray, List.set_cons_zero, List.set_cons_succ, i64_w]; rfl) ?_
                  refine pU 19 (some 78) rfl rfl (any_of HT_.out (by kernel_rfl)) (fun _ _ _ h => h) (by rfl) (by simp only [Act.put, List.setIfInBounds_toArray, List.set_cons_zero, List.set_cons_succ, i64_w]; rfl) ?_
                  refine pU 20 (some 79) rfl rfl (any_of HT_.out (by kernel_rfl)) (fun _ _ _ h => h) (by rfl) (by simp only [Act.put, List.setIfInBounds_toArray, List.set_cons_zero, List.set_cons_succ, i64_w]; rfl) ?_
                  refine pU 21 (some 80) rfl rfl (any_of HT_.out (by kernel_rfl)) (fun _ _ _ h => h) (by rfl) (by simp only [Act.put, List.setIfInBounds_toArray, List.set_cons_zero, List.set_cons_succ, i64_w]; rfl) ?_
                  refine pU 22 (some 81) rfl rfl (any_of HT_.out (by kernel_rfl)) (fun _ _ _ h => h) (by rfl) (by simp only [Act.put, List.setIfInBounds_toArray, List.set_cons_zero, List.set_cons_succ, i64_w]; rfl) ?_
                  refine pS 23 (some 82) rfl rfl (any_of HT_.out (by kernel_rfl)) (fun _ _ _ h => h) (by rfl) (fun w' => by go_simp; with_reducible rfl) (by simp only [Act.put, List.setIfInBounds_toArray, List.set_cons_zero, List.set_cons_succ, i64_w]; rfl) ?_
                  refine done_ (done_of HT_.out (by kernel_rfl)) ?_
                  try go_wp2
                  go_ret
                  exact ⟨by first | rfl | (simp [errW_none, errW_some] <;> rfl) | (simp [*, errW_none, errW_some] <;> rfl), bw w⟩
                 ·
                  rw [if_neg c31] at H
                  have c31b0 : decide ((wrap64 (a0_1 * t695)) < (wrap64 ((rd l3 x9_1) - (rd l3 x11_3)))) = false := decide_eq_false c31
                  clear c31
                  by_cases c34 : (wrap64 ((rd l3 x11_3) - (rd l3 x9_1))) > (wrap64 (a0_1 * t695))
                  ·
                   rw [if_pos c34] at H
                   have c34b0 : decide ((wrap64 (a0_1 * t695)) < (wrap64 ((rd l3 x11_3) - (rd l3 x9_1)))) = true := decide_eq_true c34
                   clear c34
                   obtain rfl := Option.some.inj H
                   try go_wp2
                   have n0_ := Bk.mk (blk_drew BK686.out)
                   have n1_ := Bk.mk (blk_drew BK690.out)
                   have n2_ := Bw.mk (below_drew1 HB.out)
                   clear BK686 BK690 HB
                   have BK686 := n0_
                   have BK690 := n1_
                   have HB := n2_
                   clear n0_ n1_ n2_
                   have p693 : 0 ≤ (x9_1 : Int) := of_decide_eq_true (by first | (with_reducible assumption) | assumption)
                   have q693 : x9_1 < (l2.length : Int) := of_decide_eq_true (by first | (with_reducible assumption) | assumption)
                   obtain ⟨ad693, e693, hx693_0⟩ := Kd.at_int HR2.out x9_1 p693 q693
                   have hw693_0 := hx693_0
                   obtain rfl : ad687 = ad693 := (by injection e693)
                   replace hx693_0 := cB HB hx693_0
                   replace p693 := eq_true p693
                   replace q693 := eq_true q693
                   have p694 : 0 ≤ (x11_3 : Int) := of_decide_eq_true (by first | (with_reducible assumption) | assumption)
                   have q694 : x11_3 < (l2.length : Int) := of_decide_eq_true (by first | (with_reducible assumption) | assumption)
                   obtain ⟨ad694, e694, hx694_0⟩ := Kd.at_int HR2.out x11_3 p694 q694
                   have hw694_0 := hx694_0
                   obtain rfl : ad687 = ad694 := (by injection e694)
                   replace hx694_0 := cB HB hx694_0
                   replace p694 := eq_true p694
                   replace q694 := eq_true q694
                   refine start_ (n := 13) (S := fun w' => w'.cell? ⟨gb686, 0, none⟩ = some (.int .i64 a0_0) ∧ w'.cell? ⟨gb686, 1, none⟩ = some (.int .i64 a0_1) ∧ w'.cell? ⟨gb686, 2, none⟩ = some (.slice A0_2 l0_2.length c0_2) ∧ w'.cell? (ad687.add (x9_1).toNat) = some (.int .i64 (rd l2 x9_1)) ∧ w'.cell? (ad687.add (x11_3).toNat) = some (.int .i64 (rd l2 x11_3))) (ds := []) #[false, false, false, false, false, false, false, false, false, false, false, false, false] (by kernel_rfl) rfl rfl ⟨bc BK686 0, bc BK686 1, bc BK686 2, ((HB.out.cell (World.block_lt_of_cell? w _ hw693_0)).trans hw693_0), ((HB.out.cell (World.block_lt_of_cell? w _ hw694_0)).trans hw694_0)⟩ (fun hHeld => ?_); refine with_tabW snowlineref01_history.tab10 snowlineref01_history.bits10 (fun HT_ HW_ => ?_)
                   generalize wr.drew = w35 at BK686 BK690 HB hx693_0 hx694_0 hHeld ⊢
                   refine pS 0 (some 47) rfl rfl (any_of HT_.out (by kernel_rfl)) (fun _ _ _ h => h) (by rfl) (fun w' => by go_simp; with_reducible rfl) (by simp only [Act.put, List.setIfInBounds_toArray, List.set_cons_zero, List.set_cons_succ, i64_w]; rfl) ?_
                   refine pS 2 (some 49) rfl rfl (any_of HT_.out (by kernel_rfl)) (fun _ _ _ h => h) (by rfl) (fun w' => by go_simp; with_reducible rfl) (by simp only [Act.put, List.setIfInBounds_toArray, List.set_cons_zero, List.set_cons_succ, i64_w]; rfl) ?_
                   refine pS 3 (some 50) rfl rfl (any_of HT_.out (by kernel_rfl)) (fun _ _ _ h => h) (by rfl) (fun w' => by go_simp; with_reducible rfl) (by simp only [Act.put, List.setIfInBounds_toArray, List.set_cons_zero, List.set_cons_succ, i64_w]; rfl) ?_
                   refine pS 4 (some 51) rfl rfl (any_of HT_.out (by kernel_rfl)) (fun _ _ _ h => h) (by rfl) (fun w' => by go_simp; with_reducible rfl) (by simp only [Act.put, List.setIfInBounds_toArray, List.set_cons_zero, List.set_cons_succ, i64_w]; rfl) ?_
                   refine pS 6 (some 53) rfl rfl (any_of HT_.out (by kernel_rfl)) (fun _ _ _ h => h) (by rfl) (fun w' => by go_simp; with_reducible rfl) (by simp only [Act.put, List.setIfInBounds_toArray, List.set_cons_zero, List.set_cons_succ, i64_w]; rfl) ?_
                   refine pS 7 (some 54) rfl rfl (any_of HT_.out (by kernel_rfl)) (fun _ _ _ h => h) (by rfl) (fun w' => by go_simp; with_reducible rfl) (by simp only [Act.put, List.setIfInBounds_toArray, List.set_cons_zero, List.set_cons_succ, i64_w]; rfl) ?_
                   refine pS 8 (some 55) rfl rfl (any_of HT_.out (by kernel_rfl)) (fun _ _ _ h => h) (by rfl) (fun w' => by go_simp; with_reducible rfl) (by simp only [Act.put, List.setIfInBounds_toArray, List.set_cons_zero, List.set_cons_succ, i64_w]; rfl) ?_
                   refine tS 1 (some 48) rfl rfl (take_ofW HT_.out HW_.out (by kernel_rfl)) (fun _ _ _ h => h) (by rfl) (by rintro w' ⟨s0, s1, s2, s3, s4⟩; go_simp; with_reducible rfl) hHeld (by simp only [Act.put, List.setIfInBounds_toArray, List.set_cons_zero, List.set_cons_succ, i64_w]; rfl) ?_
                   refine tS 5 (some 52) rfl rfl (take_ofW HT_.out HW_.out (by kernel_rfl)) (fun _ _ _ h => h) (by rfl) (by rintro w' ⟨s0, s1, s2, s3, s4⟩; go_simp; with_reducible rfl) hHeld (by simp only [Act.put, List.setIfInBounds_toArray, List.set_cons_zero, List.set_cons_succ, i64_w]; rfl) ?_
                   refine tS 9 (some 56) rfl rfl (take_ofW HT_.out HW_.out (by kernel_rfl)) (fun _ _ _ h => h) (by rfl) (by rintro w' ⟨s0, s1, s2, s3, s4⟩; go_simp; with_reducible rfl) hHeld (by simp only [Act.put, List.setIfInBounds_toArray, List.set_cons_zero, List.set_cons_succ, i64_w]; rfl) ?_
                   refine one_ (i := 10) (N := some 57) #[true, true, true, true, true, true, true, true, true, true, true, false, false] rfl rfl (one_of HT_.out (by kernel_rfl)) (by decide) (fun K hK => ?_)
                   refine goesM Tryd.func103 (by kernel_rfl) rfl #[.int .i64 (rd l2 x9_1), .int .i64 (rd l2 x11_3)] (by rfl) rfl rfl (by rfl) ?_
                   with_reducible refine (snowlineref01_far.calls (rd l2 x9_1) (rd l2 x11_3) t695 _ A28.out).mono ?_
                   rintro e w' ⟨rfl, ⟨nd, rfl⟩⟩
                   refine ⟨_, rfl, ?_⟩
                   refine hK.out _ _ ⟨bc BK686 0, bc BK686 1, bc BK686 2, ((HB.out.cell (World.block_lt_of_cell? w _ hw693_0)).trans hw693_0), ((HB.out.cell (World.block_lt_of_cell? w _ hw694_0)).trans hw694_0)⟩ (fun hHeld => ?_)
                   clear hK K
                   refine norm_ (a' := ?_) ?_ ?_
                   rotate_left
                   ·
                    show Act.put _ (some 57) _ = _
                    simp only [Act.put, List.setIfInBounds_toArray, List.set_cons_zero, List.set_cons_succ, i64_w]
                    rfl
                   refine pS 11 (some 58) rfl rfl (any_of HT_.out (by kernel_rfl)) (fun _ _ _ h => h) (by rfl) (fun w' => by go_simp; with_reducible rfl) (by simp only [Act.put, List.setIfInBounds_toArray, List.set_cons_zero, List.set_cons_succ, i64_w]; rfl) ?_
                   refine pS 12 (some 12) rfl rfl (any_of HT_.out (by kernel_rfl)) (fun _ _ _ h => h) (by rfl) (fun w' => by go_simp; with_reducible rfl) (by simp only [Act.put, List.setIfInBounds_toArray, List.set_cons_zero, List.set_cons_succ, i64_w]; rfl) ?_
                   refine done_ (done_of HT_.out (by kernel_rfl)) ?_
                   try go_wp2
                   (try (rw [drewN_self w35]; generalize hq_ : World.drewN w35 _ = w35; have n0_ : Bk w35 gb686 (.cells #[.int .i64 a0_0, .int .i64 a0_1, .slice A0_2 l0_2.length c0_2] 24 (0, 0)) := ⟨by rw [← hq_]; exact (bk _ gb686)⟩; have n1_ : Bk w35 gb690 (.cells #[.int .i64 t688, .int .i64 t689] 40 (0, 0)) := ⟨by rw [← hq_]; exact (bk _ gb690)⟩; have n2_ : Bw w w35 := ⟨by rw [← hq_]; exact (bw w)⟩; clear BK686 BK690 HB hq_; have BK686 := n0_; have BK690 := n1_; have HB := n2_; clear n0_ n1_ n2_))
                   have n0_ := Bk.mk (blk_drew BK686.out)
                   have n1_ := Bk.mk (blk_drew BK690.out)
                   have n2_ := Bw.mk (below_drew1 HB.out)
                   clear BK686 BK690 HB
                   have BK686 := n0_
                   have BK690 := n1_
                   have HB := n2_
                   clear n0_ n1_ n2_
                   have p696 : 0 ≤ (x9_1 : Int) := of_decide_eq_true (by first | (with_reducible assumption) | assumption)
                   have q696 : x9_1 < (l3.length : Int) := of_decide_eq_true (by first | (with_reducible assumption) | assumption)
                   obtain ⟨ad696, e696, hx696_0⟩ := Kd.at_int HR3.out x9_1 p696 q696
                   have hw696_0 := hx696_0
                   cases e696
                   replace hx696_0 := cB HB hx696_0
                   replace p696 := eq_true p696
                   replace q696 := eq_true q696
                   have p697 : 0 ≤ (x11_3 : Int) := of_decide_eq_true (by first | (with_reducible assumption) | assumption)
                   have q697 : x11_3 < (l3.length : Int) := of_decide_eq_true (by first | (with_reducible assumption) | assumption)
                   obtain ⟨ad697, e697, hx697_0⟩ := Kd.at_int HR3.out x11_3 p697 q697
                   have hw697_0 := hx697_0
                   obtain rfl : ad696 = ad697 := (by injection e697)
                   replace hx697_0 := cB HB hx697_0
                   replace p697 := eq_true p697
                   replace q697 := eq_true q697
                   have p698 : 0 ≤ (x11_3 : Int) := of_decide_eq_true (by first | (with_reducible assumption) | assumption)
                   have q698 : x11_3 < (l3.length : Int) := of_decide_eq_true (by first | (with_reducible assumption) | assumption)
                   obtain ⟨ad698, e698, hx698_0⟩ := Kd.at_int HR3.out x11_3 p698 q698
                   have hw698_0 := hx698_0
                   obtain rfl : ad696 = ad698 := (by injection e698)
                   replace hx698_0 := cB HB hx698_0
                   replace p698 := eq_true p698
                   replace q698 := eq_true q698
                   have p699 : 0 ≤ (x9_1 : Int) := of_decide_eq_true (by first | (with_reducible assumption) | assumption)
                   have q699 : x9_1 < (l3.length : Int) := of_decide_eq_true (by first | (with_reducible assumption) | assumption)
                   obtain ⟨ad699, e699, hx699_0⟩ := Kd.at_int HR3.out x9_1 p699 q699
                   have hw699_0 := hx699_0
                   obtain rfl : ad696 = ad699 := (by injection e699)
                   replace hx699_0 := cB HB hx699_0
                   replace p699 := eq_true p699
                   replace q699 := eq_true q699
                   refine start_ (n := 24) (S := fun w' => w'.cell? (ad696.add (x9_1).toNat) = some (.int .i64 (rd l3 x9_1)) ∧ w'.cell? (ad696.add (x11_3).toNat) = some (.int .i64 (rd l3 x11_3)) ∧ w'.cell? (ad696.add (x11_3).toNat) = some (.int .i64 (rd l3 x11_3)) ∧ w'.cell? (ad696.add (x9_1).toNat) = some (.int .i64 (rd l3 x9_1))) (ds := []) #[false, false, false, false, false, false, false, false, false, false, false, false, false, false, false, false, false, false, false, false, false, false, false, false] (by kernel_rfl) rfl rfl ⟨((HB.out.cell (World.block_lt_of_cell? w _ hw696_0)).trans hw696_0), ((HB.out.cell (World.block_lt_of_cell? w _ hw697_0)).trans hw697_0), ((HB.out.cell (World.block_lt_of_cell? w _ hw698_0)).trans hw698_0), ((HB.out.cell (World.block_lt_of_cell? w _ hw699_0)).trans hw699_0)⟩ (fun hHeld => ?_); refine with_tabW snowlineref01_history.tab11 snowlineref01_history.bits11 (fun HT_ HW_ => ?_)
                   generalize w35.drew = w36 at BK686 BK690 HB hx696_0 hx697_0 hx698_0 hx699_0 hHeld ⊢
                   refine pS 0 (some 59) rfl rfl (any_of HT_.out (by kernel_rfl)) (fun _ _ _ h => h) (by rfl) (fun w' => by go_simp; with_reducible rfl) (by simp only [Act.put, List.setIfInBounds_toArray, List.set_cons_zero, List.set_cons_succ, i64_w]; rfl) ?_
                   refine pS 1 (some 60) rfl rfl (any_of HT_.out (by kernel_rfl)) (fun _ _ _ h => h) (by rfl) (fun w' => by go_simp; with_reducible rfl) (by simp only [Act.put, List.setIfInBounds_toArray, List.set_cons_zero, List.set_cons_succ, i64_w]; rfl) ?_
                   refine pS 2 (some 61) rfl rfl (any_of HT_.out (by kernel_rfl)) (fun _ _ _ h => h) (by rfl) (fun w' => by go_simp; with_reducible rfl) (by simp only [Act.put, List.setIfInBounds_toArray, List.set_cons_zero, List.set_cons_succ, i64_w]; rfl) ?_
                   refine pS 4 (some 63) rfl rfl (any_of HT_.out (by kernel_rfl)) (fun _ _ _ h => h) (by rfl) (fun w' => by go_simp; with_reducible rfl) (by simp only [Act.put, List.setIfInBounds_toArray, List.set_cons_zero, List.set_cons_succ, i64_w]; rfl) ?_
                   refine pS 5 (some 64) rfl rfl (any_of HT_.out (by kernel_rfl)) (fun _ _ _ h => h) (by rfl) (fun w' => by go_simp; with_reducible rfl) (by simp only [Act.put, List.setIfInBounds_toArray, List.set_cons_zero, List.set_cons_succ, i64_w]; rfl) ?_
                   refine pS 6 (some 65) rfl rfl (any_of HT_.out (by kernel_rfl)) (fun _ _ _ h => h) (by rfl) (fun w' => by go_simp; with_reducible rfl) (by simp only [Act.put, List.setIfInBounds_toArray, List.set_cons_zero, List.set_cons_succ, i64_w]; rfl) ?_
                   refine pS 9 (some 68) rfl rfl (any_of HT_.out (by kernel_rfl)) (fun _ _ _ h => h) (by rfl) (fun w' => by go_simp; with_reducible rfl) (by simp only [Act.put, List.setIfInBounds_toArray, List.set_cons_zero, List.set_cons_succ, i64_w]; rfl) ?_
                   refine tS 3 (some 62) rfl rfl (take_ofW HT_.out HW_.out (by kernel_rfl)) (fun _ _ _ h => h) (by rfl) (by rintro w' ⟨s0, s1, s2, s3⟩; go_simp; with_reducible rfl) hHeld (by simp only [Act.put, List.setIfInBounds_toArray, List.set_cons_zero, List.set_cons_succ, i64_w]; rfl) ?_
                   refine tS 7 (some 66) rfl rfl (take_ofW HT_.out HW_.out (by kernel_rfl)) (fun _ _ _ h => h) (by rfl) (by rintro w' ⟨s0, s1, s2, s3⟩; go_simp; with_reducible rfl) hHeld (by simp only [Act.put, List.setIfInBounds_toArray, List.set_cons_zero, List.set_cons_succ, i64_w]; rfl) ?_
                   refine pS 8 (some 67) rfl rfl (any_of HT_.out (by kernel_rfl)) (fun _ _ _ h => h) (by rfl) (fun w' => by go_simp; with_reducible rfl) (by simp only [Act.put, List.setIfInBounds_toArray, List.set_cons_zero, List.set_cons_succ, i64_w]; rfl) ?_
                   refine pS 10 (some 69) rfl rfl (any_of HT_.out (by kernel_rfl)) (fun _ _ _ h => h) (by rfl) (fun w' => by go_simp; with_reducible rfl) (by simp only [Act.put, List.setIfInBounds_toArray, List.set_cons_zero, List.set_cons_succ, i64_w]; rfl) ?_
                   refine pS 11 (some 70) rfl rfl (any_of HT_.out (by kernel_rfl)) (fun _ _ _ h => h) (by rfl) (fun w' => by go_simp; with_reducible rfl) (by simp only [Act.put, List.setIfInBounds_toArray, List.set_cons_zero, List.set_cons_succ, i64_w]; rfl) ?_
                   refine pS 12 (some 71) rfl rfl (any_of HT_.out (by kernel_rfl)) (fun _ _ _ h => h) (by rfl) (fun w' => by go_simp; with_reducible rfl) (by simp only [Act.put, List.setIfInBounds_toArray, List.set_cons_zero, List.set_cons_succ, i64_w]; rfl) ?_
                   refine pS 13 (some 72) rfl rfl (any_of HT_.out (by kernel_rfl)) (fun _ _ _ h => h) (by rfl) (fun w' => by go_simp; with_reducible rfl) (by simp only [Act.put, List.setIfInBounds_toArray, List.set_cons_zero, List.set_cons_succ, i64_w]; rfl) ?_
                   refine pS 14 (some 73) rfl rfl (any_of HT_.out (by kernel_rfl)) (fun _ _ _ h => h) (by rfl) (fun w' => by go_simp; with_reducible rfl) (by simp only [Act.put, List.setIfInBounds_toArray, List.set_cons_zero, List.set_cons_succ, i64_w]; rfl) ?_
                   refine pS 16 (some 75) rfl rfl (any_of HT_.out (by kernel_rfl)) (fun _ _ _ h => h) (by rfl) (fun w' => by go_simp; with_reducible rfl) (by simp only [Act.put, List.setIfInBounds_toArray, List.set_cons_zero, List.set_cons_succ, i64_w]; rfl) ?_
                   refine pS 17 (some 76) rfl rfl (any_of HT_.out (by kernel_rfl)) (fun _ _ _ h => h) (by rfl) (fun w' => by go_simp; with_reducible rfl) (by simp only [Act.put, List.setIfInBounds_toArray, List.set_cons_zero, List.set_cons_succ, i64_w]; rfl) ?_
                   refine pS 18 (some 77) rfl rfl (any_of HT_.out (by kernel_rfl)) (fun _ _ _ h => h) (by rfl) (fun w' => by go_simp; with_reducible rfl) (by simp only [Act.put, List.setIfInBounds_toArray, List.set_cons_zero, List.set_cons_succ, i64_w]; rfl) ?_
                   refine pS 21 (some 80) rfl rfl (any_of HT_.out (by kernel_rfl)) (fun _ _ _ h => h) (by rfl) (fun w' => by go_simp; with_reducible rfl) (by simp only [Act.put, List.setIfInBounds_toArray, List.set_cons_zero, List.set_cons_succ, i64_w]; rfl) ?_
                   refine tS 15 (some 74) rfl rfl (take_ofW HT_.out HW_.out (by kernel_rfl)) (fun _ _ _ h => h) (by rfl) (by rintro w' ⟨s0, s1, s2, s3⟩; go_simp; with_reducible rfl) hHeld (by simp only [Act.put, List.setIfInBounds_toArray, List.set_cons_zero, List.set_cons_succ, i64_w]; rfl) ?_
                   refine tS 19 (some 78) rfl rfl (take_ofW HT_.out HW_.out (by kernel_rfl)) (fun _ _ _ h => h) (by rfl) (by rintro w' ⟨s0, s1, s2, s3⟩; go_simp; with_reducible rfl) hHeld (by simp only [Act.put, List.setIfInBounds_toArray, List.set_cons_zero, List.set_cons_succ, i64_w]; rfl) ?_
                   refine pS 20 (some 79) rfl rfl (any_of HT_.out (by kernel_rfl)) (fun _ _ _ h => h) (by rfl) (fun w' => by go_simp; with_reducible rfl) (by simp only [Act.put, List.setIfInBounds_toArray, List.set_cons_zero, List.set_cons_succ, i64_w]; rfl) ?_
                   refine pS 22 (some 81) rfl rfl (any_of HT_.out (by kernel_rfl)) (fun _ _ _ h => h) (by rfl) (fun w' => by go_simp; with_reducible rfl) (by simp only [Act.put, List.setIfInBounds_toArray, List.set_cons_zero, List.set_cons_succ, i64_w]; rfl) ?_
                   refine pS 23 (some 82) rfl rfl (any_of HT_.out (by kernel_rfl)) (fun _ _ _ h => h) (by rfl) (fun w' => by go_simp; with_reducible rfl) (by simp only [Act.put, List.setIfInBounds_toArray, List.set_cons_zero, List.set_cons_succ, i64_w]; rfl) ?_
                   refine done_ (done_of HT_.out (by kernel_rfl)) ?_
                   try go_wp2
                   go_ret
                   exact ⟨by first | rfl | (simp [errW_none, errW_some] <;> rfl) | (simp [*, errW_none, errW_some] <;> rfl), bw w⟩
                  ·
                   rw [if_neg c34] at H
                   have c34b0 : decide ((wrap64 (a0_1 * t695)) < (wrap64 ((rd l3 x11_3) - (rd l3 x9_1)))) = false := decide_eq_false c34
                   clear c34
                   have H' := Aside0.mk H
                   clear H
                   try go_wp2
                   have n0_ := Bk.mk (blk_drew BK686.out)
                   have n1_ := Bk.mk (blk_drew BK690.out)
                   have n2_ := Bw.mk (below_drew1 HB.out)
                   clear BK686 BK690 HB
                   have BK686 := n0_
                   have BK690 := n1_
                   have HB := n2_
                   clear n0_ n1_ n2_
                   have p693 : 0 ≤ (x9_1 : Int) := of_decide_eq_true (by first | (with_reducible assumption) | assumption)
                   have q693 : x9_1 < (l2.length : Int) := of_decide_eq_true (by first | (with_reducible assumption) | assumption)
                   obtain ⟨ad693, e693, hx693_0⟩ := Kd.at_int HR2.out x9_1 p693 q693
                   have hw693_0 := hx693_0
                   obtain rfl : ad687 = ad693 := (by injection e693)
                   replace hx693_0 := cB HB hx693_0
                   replace p693 := eq_true p693
                   replace q693 := eq_true q693
                   have p694 : 0 ≤ (x11_3 : Int) := of_decide_eq_true (by first | (with_reducible assumption) | assumption)
                   have q694 : x11_3 < (l2.length : Int) := of_decide_eq_true (by first | (with_reducible assumption) | assumption)
                   obtain ⟨ad694, e694, hx694_0⟩ := Kd.at_int HR2.out x11_3 p694 q694
                   have hw694_0 := hx694_0
                   obtain rfl : ad687 = ad694 := (by injection e694)
                   replace hx694_0 := cB HB hx694_0
                   replace p694 := eq_true p694
                   replace q694 := eq_true q694
                   refine start_ (n := 13) (S := fun w' => w'.cell? ⟨gb686, 0, none⟩ = some (.int .i64 a0_0) ∧ w'.cell? ⟨gb686, 1, none⟩ = some (.int .i64 a0_1) ∧ w'.cell? ⟨gb686, 2, none⟩ = some (.slice A0_2 l0_2.length c0_2) ∧ w'.cell? (ad687.add (x9_1).toNat) = some (.int .i64 (rd l2 x9_1)) ∧ w'.cell? (ad687.add (x11_3).toNat) = some (.int .i64 (rd l2 x11_3))) (ds := []) #[false, false, false, false, false, false, false, false, false, false, false, false, false] (by kernel_rfl) rfl rfl ⟨bc BK686 0, bc BK686 1, bc BK686 2, ((HB.out.cell (World.block_lt_of_cell? w _ hw693_0)).trans hw693_0), ((HB.out.cell (World.block_lt_of_cell? w _ hw694_0)).trans hw694_0)⟩ (fun hHeld => ?_); refine with_tabW snowlineref01_history.tab10 snowlineref01_history.bits10 (fun HT_ HW_ => ?_)
                   generalize wr.drew = w37 at BK686 BK690 HB hx693_0 hx694_0 hHeld ⊢
                   refine pS 0 (some 47) rfl rfl (any_of HT_.out (by kernel_rfl)) (fun _ _ _ h => h) (by rfl) (fun w' => by go_simp; with_reducible rfl) (by simp only [Act.put, List.setIfInBounds_toArray, List.set_cons_zero, List.set_cons_succ, i64_w]; rfl) ?_
                   refine pS 2 (some 49) rfl rfl (any_of HT_.out (by kernel_rfl)) (fun _ _ _ h => h) (by rfl) (fun w' => by go_simp; with_reducible rfl) (by simp only [Act.put, List.setIfInBounds_toArray, List.set_cons_zero, List.set_cons_succ, i64_w]; rfl) ?_
                   refine pS 3 (some 50) rfl rfl (any_of HT_.out (by kernel_rfl)) (fun _ _ _ h => h) (by rfl) (fun w' => by go_simp; with_reducible rfl) (by simp only [Act.put, List.setIfInBounds_toArray, List.set_cons_zero, List.set_cons_succ, i64_w]; rfl) ?_
                   refine pS 4 (some 51) rfl rfl (any_of HT_.out (by kernel_rfl)) (fun _ _ _ h => h) (by rfl) (fun w' => by go_simp; with_reducible rfl) (by simp only [Act.put, List.setIfInBounds_toArray, List.set_cons_zero, List.set_cons_succ, i64_w]; rfl) ?_
                   refine pS 6 (some 53) rfl rfl (any_of HT_.out (by kernel_rfl)) (fun _ _ _ h => h) (by rfl) (fun w' => by go_simp; with_reducible rfl) (by simp only [Act.put, List.setIfInBounds_toArray, List.set_cons_zero, List.set_cons_succ, i64_w]; rfl) ?_
                   refine pS 7 (some 54) rfl rfl (any_of HT_.out (by kernel_rfl)) (fun _ _ _ h => h) (by rfl) (fun w' => by go_simp; with_reducible rfl) (by simp only [Act.put, List.setIfInBounds_toArray, List.set_cons_zero, List.set_cons_succ, i64_w]; rfl) ?_
                   refine pS 8 (some 55) rfl rfl (any_of HT_.out (by kernel_rfl)) (fun _ _ _ h => h) (by rfl) (fun w' => by go_simp; with_reducible rfl) (by simp only [Act.put, List.setIfInBounds_toArray, List.set_cons_zero, List.set_cons_succ, i64_w]; rfl) ?_
                   refine tS 1 (some 48) rfl rfl (take_ofW HT_.out HW_.out (by kernel_rfl)) (fun _ _ _ h => h) (by rfl) (by rintro w' ⟨s0, s1, s2, s3, s4⟩; go_simp; with_reducible rfl) hHeld (by simp only [Act.put, List.setIfInBounds_toArray, List.set_cons_zero, List.set_cons_succ, i64_w]; rfl) ?_
                   refine tS 5 (some 52) rfl rfl (take_ofW HT_.out HW_.out (by kernel_rfl)) (fun _ _ _ h => h) (by rfl) (by rintro w' ⟨s0, s1, s2, s3, s4⟩; go_simp; with_reducible rfl) hHeld (by simp only [Act.put, List.setIfInBounds_toArray, List.set_cons_zero, List.set_cons_succ, i64_w]; rfl) ?_
                   refine tS 9 (some 56) rfl rfl (take_ofW HT_.out HW_.out (by kernel_rfl)) (fun _ _ _ h => h) (by rfl) (by rintro w' ⟨s0, s1, s2, s3, s4⟩; go_simp; with_reducible rfl) hHeld (by simp only [Act.put, List.setIfInBounds_toArray, List.set_cons_zero, List.set_cons_succ, i64_w]; rfl) ?_
                   refine one_ (i := 10) (N := some 57) #[true, true, true, true, true, true, true, true, true, true, true, false, false] rfl rfl (one_of HT_.out (by kernel_rfl)) (by decide) (fun K hK => ?_)
                   refine goesM Tryd.func103 (by kernel_rfl) rfl #[.int .i64 (rd l2 x9_1), .int .i64 (rd l2 x11_3)] (by rfl) rfl rfl (by rfl) ?_
                   with_reducible refine (snowlineref01_far.calls (rd l2 x9_1) (rd l2 x11_3) t695 _ A28.out).mono ?_
                   rintro e w' ⟨rfl, ⟨nd, rfl⟩⟩
                   refine ⟨_, rfl, ?_⟩
                   refine hK.out _ _ ⟨bc BK686 0, bc BK686 1, bc BK686 2, ((HB.out.cell (World.block_lt_of_cell? w _ hw693_0)).trans hw693_0), ((HB.out.cell (World.block_lt_of_cell? w _ hw694_0)).trans hw694_0)⟩ (fun hHeld => ?_)
                   clear hK K
                   refine norm_ (a' := ?_) ?_ ?_
                   rotate_left
                   ·
                    show Act.put _ (some 57) _ = _
                    simp only [Act.put, List.setIfInBounds_toArray, List.set_cons_zero, List.set_cons_succ, i64_w]
                    rfl
                   refine pS 11 (some 58) rfl rfl (any_of HT_.out (by kernel_rfl)) (fun _ _ _ h => h) (by rfl) (fun w' => by go_simp; with_reducible rfl) (by simp only [Act.put, List.setIfInBounds_toArray, List.set_cons_zero, List.set_cons_succ, i64_w]; rfl) ?_
                   refine pS 12 (some 12) rfl rfl (any_of HT_.out (by kernel_rfl)) (fun _ _ _ h => h) (by rfl) (fun w' => by go_simp; with_reducible rfl) (by simp only [Act.put, List.setIfInBounds_toArray, List.set_cons_zero, List.set_cons_succ, i64_w]; rfl) ?_
                   refine done_ (done_of HT_.out (by kernel_rfl)) ?_
                   try go_wp2
                   (try (rw [drewN_self w37]; generalize hq_ : World.drewN w37 _ = w37; have n0_ : Bk w37 gb686 (.cells #[.int .i64 a0_0, .int .i64 a0_1, .slice A0_2 l0_2.length c0_2] 24 (0, 0)) := ⟨by rw [← hq_]; exact (bk _ gb686)⟩; have n1_ : Bk w37 gb690 (.cells #[.int .i64 t688, .int .i64 t689] 40 (0, 0)) := ⟨by rw [← hq_]; exact (bk _ gb690)⟩; have n2_ : Bw w w37 := ⟨by rw [← hq_]; exact (bw w)⟩; clear BK686 BK690 HB hq_; have BK686 := n0_; have BK690 := n1_; have HB := n2_; clear n0_ n1_ n2_))
                   have n0_ := Bk.mk (blk_drew BK686.out)
                   have n1_ := Bk.mk (blk_drew BK690.out)
                   have n2_ := Bw.mk (below_drew1 HB.out)
                   clear BK686 BK690 HB
                   have BK686 := n0_
                   have BK690 := n1_
                   have HB := n2_
                   clear n0_ n1_ n2_
                   have p696 : 0 ≤ (x9_1 : Int) := of_decide_eq_true (by first | (with_reducible assumption) | assumption)
                   have q696 : x9_1 < (l3.length : Int) := of_decide_eq_true (by first | (with_reducible assumption) | assumption)
                   obtain ⟨ad696, e696, hx696_0⟩ := Kd.at_int HR3.out x9_1 p696 q696
                   have hw696_0 := hx696_0
                   cases e696
                   replace hx696_0 := cB HB hx696_0
                   replace p696 := eq_true p696
                   replace q696 := eq_true q696
                   have p697 : 0 ≤ (x11_3 : Int) := of_decide_eq_true (by first | (with_reducible assumption) | assumption)
                   have q697 : x11_3 < (l3.length : Int) := of_decide_eq_true (by first | (with_reducible assumption) | assumption)
                   obtain ⟨ad697, e697, hx697_0⟩ := Kd.at_int HR3.out x11_3 p697 q697
                   have hw697_0 := hx697_0
                   obtain rfl : ad696 = ad697 := (by injection e697)
                   replace hx697_0 := cB HB hx697_0
                   replace p697 := eq_true p697
                   replace q697 := eq_true q697
                   have p698 : 0 ≤ (x11_3 : Int) := of_decide_eq_true (by first | (with_reducible assumption) | assumption)
                   have q698 : x11_3 < (l3.length : Int) := of_decide_eq_true (by first | (with_reducible assumption) | assumption)
                   obtain ⟨ad698, e698, hx698_0⟩ := Kd.at_int HR3.out x11_3 p698 q698
                   have hw698_0 := hx698_0
                   obtain rfl : ad696 = ad698 := (by injection e698)
                   replace hx698_0 := cB HB hx698_0
                   replace p698 := eq_true p698
                   replace q698 := eq_true q698
                   have p699 : 0 ≤ (x9_1 : Int) := of_decide_eq_true (by first | (with_reducible assumption) | assumption)
                   have q699 : x9_1 < (l3.length : Int) := of_decide_eq_true (by first | (with_reducible assumption) | assumption)
                   obtain ⟨ad699, e699, hx699_0⟩ := Kd.at_int HR3.out x9_1 p699 q699
                   have hw699_0 := hx699_0
                   obtain rfl : ad696 = ad699 := (by injection e699)
                   replace hx699_0 := cB HB hx699_0
                   replace p699 := eq_true p699
                   replace q699 := eq_true q699
                   refine start_ (n := 24) (S := fun w' => w'.cell? (ad696.add (x9_1).toNat) = some (.int .i64 (rd l3 x9_1)) ∧ w'.cell? (ad696.add (x11_3).toNat) = some (.int .i64 (rd l3 x11_3)) ∧ w'.cell? (ad696.add (x11_3).toNat) = some (.int .i64 (rd l3 x11_3)) ∧ w'.cell? (ad696.add (x9_1).toNat) = some (.int .i64 (rd l3 x9_1))) (ds := []) #[false, false, false, false, false, false, false, false, false, false, false, false, false, false, false, false, false, false, false, false, false, false, false, false] (by kernel_rfl) rfl rfl ⟨((HB.out.cell (World.block_lt_of_cell? w _ hw696_0)).trans hw696_0), ((HB.out.cell (World.block_lt_of_cell? w _ hw697_0)).trans hw697_0), ((HB.out.cell (World.block_lt_of_cell? w _ hw698_0)).trans hw698_0), ((HB.out.cell (World.block_lt_of_cell? w _ hw699_0)).trans hw699_0)⟩ (fun hHeld => ?_); refine with_tabW snowlineref01_history.tab11 snowlineref01_history.bits11 (fun HT_ HW_ => ?_)
                   generalize w37.drew = w38 at BK686 BK690 HB hx696_0 hx697_0 hx698_0 hx699_0 hHeld ⊢
                   refine pS 0 (some 59) rfl rfl (any_of HT_.out (by kernel_rfl)) (fun _ _ _ h => h) (by rfl) (fun w' => by go_simp; with_reducible rfl) (by simp only [Act.put, List.setIfInBounds_toArray, List.set_cons_zero, List.set_cons_succ, i64_w]; rfl) ?_
                   refine pS 1 (some 60) rfl rfl (any_of HT_.out (by kernel_rfl)) (fun _ _ _ h => h) (by rfl) (fun w' => by go_simp; with_reducible rfl) (by simp only [Act.put, List.setIfInBounds_toArray, List.set_cons_zero, List.set_cons_succ, i64_w]; rfl) ?_
                   refine pS 2 (some 61) rfl rfl (any_of HT_.out (by kernel_rfl)) (fun _ _ _ h => h) (by rfl) (fun w' => by go_simp; with_reducible rfl) (by simp only [Act.put, List.setIfInBounds_toArray, List.set_cons_zero, List.set_cons_succ, i64_w]; rfl) ?_
                   refine pS 4 (some 63) rfl rfl (any_of HT_.out (by kernel_rfl)) (fun _ _ _ h => h) (by rfl) (fun w' => by go_simp; with_reducible rfl) (by simp only [Act.put, List.setIfInBounds_toArray, List.set_cons_zero, List.set_cons_succ, i64_w]; rfl) ?_
                   refine pS 5 (some 64) rfl rfl (any_of HT_.out (by kernel_rfl)) (fun _ _ _ h => h) (by rfl) (fun w' => by go_simp; with_reducible rfl) (by simp only [Act.put, List.setIfInBounds_toArray, List.set_cons_zero, List.set_cons_succ, i64_w]; rfl) ?_
                   refine pS 6 (some 65) rfl rfl (any_of HT_.out (by kernel_rfl)) (fun _ _ _ h => h) (by rfl) (fun w' => by go_simp; with_reducible rfl) (by simp only [Act.put, List.setIfInBounds_toArray, List.set_cons_zero, List.set_cons_succ, i64_w]; rfl) ?_
                   refine pS 9 (some 68) rfl rfl (any_of HT_.out (by kernel_rfl)) (fun _ _ _ h => h) (by rfl) (fun w' => by go_simp; with_reducible rfl) (by simp only [Act.put, List.setIfInBounds_toArray, List.set_cons_zero, List.set_cons_succ, i64_w]; rfl) ?_
                   refine tS 3 (some 62) rfl rfl (take_ofW HT_.out HW_.out (by kernel_rfl)) (fun _ _ _ h => h) (by rfl) (by rintro w' ⟨s0, s1, s2, s3⟩; go_simp; with_reducible rfl) hHeld (by simp only [Act.put, List.setIfInBounds_toArray, List.set_cons_zero, List.set_cons_succ, i64_w]; rfl) ?_
                   refine tS 7 (some 66) rfl rfl (take_ofW HT_.out HW_.out (by kernel_rfl)) (fun _ _ _ h => h) (by rfl) (by rintro w' ⟨s0, s1, s2, s3⟩; go_simp; with_reducible rfl) hHeld (by simp only [Act.put, List.setIfInBounds_toArray, List.set_cons_zero, List.set_cons_succ, i64_w]; rfl) ?_
                   refine pS 8 (some 67) rfl rfl (any_of HT_.out (by kernel_rfl)) (fun _ _ _ h => h) (by rfl) (fun w' => by go_simp; with_reducible rfl) (by simp only [Act.put, List.setIfInBounds_toArray, List.set_cons_zero, List.set_cons_succ, i64_w]; rfl) ?_
                   refine pS 10 (some 69) rfl rfl (any_of HT_.out (by kernel_rfl)) (fun _ _ _ h => h) (by rfl) (fun w' => by go_simp; with_reducible rfl) (by simp only [Act.put, List.setIfInBounds_toArray, List.set_cons_zero, List.set_cons_succ, i64_w]; rfl) ?_
                   refine pS 11 (some 70) rfl rfl (any_of HT_.out (by kernel_rfl)) (fun _ _ _ h => h) (by rfl) (fun w' => by go_simp; with_reducible rfl) (by simp only [Act.put, List.setIfInBounds_toArray, List.set_cons_zero, List.set_cons_succ, i64_w]; rfl) ?_
                   refine pS 12 (some 71) rfl rfl (any_of HT_.out (by kernel_rfl)) (fun _ _ _ h => h) (by rfl) (fun w' => by go_simp; with_reducible rfl) (by simp only [Act.put, List.setIfInBounds_toArray, List.set_cons_zero, List.set_cons_succ, i64_w]; rfl) ?_
                   refine pS 13 (some 72) rfl rfl (any_of HT_.out (by kernel_rfl)) (fun _ _ _ h => h) (by rfl) (fun w' => by go_simp; with_reducible rfl) (by simp only [Act.put, List.setIfInBounds_toArray, List.set_cons_zero, List.set_cons_succ, i64_w]; rfl) ?_
                   refine pS 14 (some 73) rfl rfl (any_of HT_.out (by kernel_rfl)) (fun _ _ _ h => h) (by rfl) (fun w' => by go_simp; with_reducible rfl) (by simp only [Act.put, List.setIfInBounds_toArray, List.set_cons_zero, List.set_cons_succ, i64_w]; rfl) ?_
                   refine pS 16 (some 75) rfl rfl (any_of HT_.out (by kernel_rfl)) (fun _ _ _ h => h) (by rfl) (fun w' => by go_simp; with_reducible rfl) (by simp only [Act.put, List.setIfInBounds_toArray, List.set_cons_zero, List.set_cons_succ, i64_w]; rfl) ?_
                   refine pS 17 (some 76) rfl rfl (any_of HT_.out (by kernel_rfl)) (fun _ _ _ h => h) (by rfl) (fun w' => by go_simp; with_reducible rfl) (by simp only [Act.put, List.setIfInBounds_toArray, List.set_cons_zero, List.set_cons_succ, i64_w]; rfl) ?_
                   refine pS 18 (some 77) rfl rfl (any_of HT_.out (by kernel_rfl)) (fun _ _ _ h => h) (by rfl) (fun w' => by go_simp; with_reducible rfl) (by simp only [Act.put, List.setIfInBounds_toArray, List.set_cons_zero, List.set_cons_succ, i64_w]; rfl) ?_
                   refine pS 21 (some 80) rfl rfl (any_of HT_.out (by kernel_rfl)) (fun _ _ _ h => h) (by rfl) (fun w' => by go_simp; with_reducible rfl) (by simp only [Act.put, List.setIfInBounds_toArray, List.set_cons_zero, List.set_cons_succ, i64_w]; rfl) ?_
                   refine tS 15 (some 74) rfl rfl (take_ofW HT_.out HW_.out (by kernel_rfl)) (fun _ _ _ h => h) (by rfl) (by rintro w' ⟨s0, s1, s2, s3⟩; go_simp; with_reducible rfl) hHeld (by simp only [Act.put, List.setIfInBounds_toArray, List.set_cons_zero, List.set_cons_succ, i64_w]; rfl) ?_
                   refine tS 19 (some 78) rfl rfl (take_ofW HT_.out HW_.out (by kernel_rfl)) (fun _ _ _ h => h) (by rfl) (by rintro w' ⟨s0, s1, s2, s3⟩; go_simp; with_reducible rfl) hHeld (by simp only [Act.put, List.setIfInBounds_toArray, List.set_cons_zero, List.set_cons_succ, i64_w]; rfl) ?_
                   refine pS 20 (some 79) rfl rfl (any_of HT_.out (by kernel_rfl)) (fun _ _ _ h => h) (by rfl) (fun w' => by go_simp; with_reducible rfl) (by simp only [Act.put, List.setIfInBounds_toArray, List.set_cons_zero, List.set_cons_succ, i64_w]; rfl) ?_
                   refine pS 22 (some 81) rfl rfl (any_of HT_.out (by kernel_rfl)) (fun _ _ _ h => h) (by rfl) (fun w' => by go_simp; with_reducible rfl) (by simp only [Act.put, List.setIfInBounds_toArray, List.set_cons_zero, List.set_cons_succ, i64_w]; rfl) ?_
                   refine pS 23 (some 82) rfl rfl (any_of HT_.out (by kernel_rfl)) (fun _ _ _ h => h) (by rfl) (fun w' => by go_simp; with_reducible rfl) (by simp only [Act.put, List.setIfInBounds_toArray, List.set_cons_zero, List.set_cons_succ, i64_w]; rfl) ?_
                   refine done_ (done_of HT_.out (by kernel_rfl)) ?_
                   try go_wp2
                   go_roundg k3
                   case measure => have := HK1.out; have := HJ8.out; have := HK3.out; omega
                   case rel => exact ⟨(wrap64 (x11_3 + 1)), (by first | rfl | (simp; done) | (simp [*]; done)), H', ⟨by have := HK1.out; have := HJ8.out; have := HK3.out; omega⟩, inferInstance, inferInstance, inferInstance⟩
                ·
                 rw [if_neg c30] at H
                 exact absurd H (by simp)
               ·
                rw [if_neg c29] at H
                exact absurd H (by simp)
              ·
               rw [if_neg c27] at H
               exact absurd H (by simp)
             ·
              rw [if_neg c26] at H
              exact absurd H (by simp)
            ·
             rw [if_neg c25] at H
             exact absurd H (by simp)
           ·
            rw [if_neg c24] at H
            exact absurd H (by simp)
          ·
           rw [if_neg c23] at H
           have c23b0 : decide (x11_3 < x9_1) = false := decide_eq_false c23
           clear c23
           have H' := Aside0.mk H
           clear H
           go_wp2
           go_roundg k3
           case measure => have := HK1.out; have := HJ8.out; have := HK3.out; omega
           case rel => exact ⟨(wrap64 (x9_1 + 1)), (by first | rfl | (simp; done) | (simp [*]; done)), H', ⟨by have := HK1.out; have := HJ8.out; have := HK3.out; omega⟩, inferInstance, inferInstance⟩
    ·
     rw [if_neg c7] at H
     exact absurd H (by simp)
   ·
    rw [if_neg c6] at H
    have c6b0 : decide (x9_1 < (l2.length : Int)) = false := decide_eq_false c6
    clear c6
    obtain rfl := Option.some.inj H
    go_wp2
    go_ret
    exact ⟨by first | rfl | (simp [errW_none, errW_some] <;> rfl) | (simp [*, errW_none, errW_some] <;> rfl), bw w⟩
def snowlineref01_History.f (k : Nat) (a0_0 : Int) (a0_1 : Int) (l0_2 : List (S26)) (a1 : Int) (l2 : List Int) (l3 : List Int) : Option (Bool × Int) := (snowlineref01_given.f k a0_0 a0_1 l0_2 a1 l2 l3).bind fun t701 => (if t701 = 0 then ((snowlineref01_history.f k a0_0 a0_1 l0_2 a1 l2 l3).bind fun t702 => (some (t702, 0))) else (some (false, t701)))
set_option maxHeartbeats 8000000 in
set_option maxRecDepth 100000 in
theorem snowlineref01_History.calls (k : Nat) (a0_0 : Int) (a0_1 : Int) (A0_2 : Option Addr) (c0_2 : Nat) (l0_2 : List (S26)) (a1 : Int) (A2 : Option Addr) (c2 : Nat) (l2 : List Int) (A3 : Option Addr) (c3 : Nat) (l3 : List Int) (r1 : Bool) (r2 : Int) (w : World) (hr0_2 : Kd.C k26 w A0_2 l0_2.length l0_2) (hc0_2 : l0_2.length ≤ c0_2) (hr2 : Kd.C (Kd.int .i64) w A2 l2.length l2) (hc2 : l2.length ≤ c2) (hr3 : Kd.C (Kd.int .i64) w A3 l3.length l3) (hc3 : l3.length ≤ c3) (h : snowlineref01_History.f k a0_0 a0_1 l0_2 a1 l2 l3 = some (r1, r2)) :
  Calls Tryd.prog 34 #[.agg #[.int .i64 a0_0, .int .i64 a0_1, .slice A0_2 l0_2.length c0_2], .int .i64 a1, .slice A2 l2.length c2, .slice A3 l3.length c3] w fun e w' => e = .returned (.tuple #[.bool r1, .int .i64 r2]) ∧ Below w.heap.size w w' := by
 have hu24 := Tryd.underlying24
 have HR0_2 := Aside0.mk (hr0_2)
 have HC0_2 := Aside0.mk (hc0_2)
 clear hr0_2 hc0_2
 have HR2 := Aside0.mk (hr2)
 have HC2 := Aside0.mk (hc2)
 clear hr2 hc2
 have HR3 := Aside0.mk (hr3)
 have HC3 := Aside0.mk (hc3)
 clear hr3 hc3
 have HB := Bw.mk (Below.refl w.heap.size w)
 have H : ((snowlineref01_given.f k a0_0 a0_1 l0_2 a1 l2 l3).bind fun t701 => (if t701 = 0 then ((snowlineref01_history.f k a0_0 a0_1 l0_2 a1 l2 l3).bind fun t702 => (some (t702, 0))) else (some (false, t701)))) = some (r1, r2) := h
 clear h
 replace H := Option.bind_eq_some_iff.mp H
 obtain ⟨t701, A50, H⟩ := H
 have A5 := Aside0.mk (A50)
 clear A50
 by_cases c6 : t701 = 0
 ·
  rw [if_pos c6] at H
  have c6b0 : (t701 == 0) = true := beq_iff_eq.mpr c6
  have c6b1 : (t701 != 0) = false := bne_eq_false_iff_eq.mpr c6
  clear c6
  replace H := Option.bind_eq_some_iff.mp H
  obtain ⟨t702, A70, H⟩ := H
  have A7 := Aside0.mk (A70)
  clear A70
  simp only [Option.some.injEq, Prod.mk.injEq] at H
  obtain ⟨rfl, rfl⟩ := H
  go_enter Tryd.func34, Tryd.ntmps34
  go_wp2_with (first | ((with_reducible refine gate_dst (N := 4) rfl ?_); refine bxE 4 24 #[.int .i64 a0_0, .int .i64 a0_1, .slice A0_2 l0_2.length c0_2] (by rfl) (by rfl) (by first | (go_simp; done) | (go_simp; rfl)) ?_; intro gb700 hg w8 hbox hb; have BK700 := Bk.mk (hbox); have GE700 := eB w hg; replace HB := bS w hb; clear hb hbox hg; obtain ⟨hcz9_0, hcz9_1, hcz9_2, hfz9_0, hfz9_1, hfz9_2⟩ := cz3 BK700) | ((with_reducible refine gate_callee (f := 99) rfl ?_); refine goesLM (some 15) rfl rfl Tryd.func99 (by kernel_rfl) rfl #[.agg #[.int .i64 a0_0, .int .i64 a0_1, .slice A0_2 l0_2.length c0_2], .int .i64 a1, .slice A2 l2.length c2, .slice A3 l3.length c3] rfl (by rfl) ?_; (with_reducible refine (snowlineref01_given.calls k a0_0 a0_1 _ _ l0_2 a1 _ _ l2 _ _ l3 t701 _ ?side1 ?side2 ?side3 ?side4 ?side5 ?side6 A5.out).mono ?_); (case side1 => exact cP (Kd.C_below HR0_2.out HB.out)); (case side2 => exact HC0_2.out); (case side3 => exact cP (Kd.C_below HR2.out HB.out)); (case side4 => exact HC2.out); (case side5 => exact cP (Kd.C_below HR3.out HB.out)); (case side6 => exact HC3.out); rintro e w10 ⟨rfl, hb⟩; refine ⟨_, rfl, ?_⟩; replace BK700 := kB gb700 hb; replace HB := bS w hb; (try clear hb); obtain ⟨hcz11_0, hcz11_1, hcz11_2, hfz11_0, hfz11_1, hfz11_2⟩ := cz3 BK700) | ((with_reducible refine gate_callee (f := 100) rfl ?_); refine goesLM (some 23) rfl rfl Tryd.func100 (by kernel_rfl) rfl #[.agg #[.int .i64 a0_0, .int .i64 a0_1, .slice A0_2 l0_2.length c0_2], .int .i64 a1, .slice A2 l2.length c2, .slice A3 l3.length c3] rfl (by rfl) ?_; (with_reducible refine (snowlineref01_history.calls k a0_0 a0_1 _ _ l0_2 a1 _ _ l2 _ _ l3 t702 _ ?side1 ?side2 ?side3 ?side4 ?side5 ?side6 A7.out).mono ?_); (case side1 => exact cP (Kd.C_below HR0_2.out HB.out)); (case side2 => exact HC0_2.out); (case side3 => exact cP (Kd.C_below HR2.out HB.out)); (case side4 => exact HC2.out); (case side5 => exact cP (Kd.C_below HR3.out HB.out)); (case side6 => exact HC3.out); rintro e w12 ⟨rfl, hb⟩; refine ⟨_, rfl, ?_⟩; replace BK700 := kB gb700 hb; replace HB := bS w hb; (try clear hb)))
  go_ret2
  exact ⟨by first | rfl | (simp [errW_none, errW_some] <;> rfl) | (simp [*, errW_none, errW_some] <;> rfl), bw w⟩
 ·
  rw [if_neg c6] at H
  have c6b0 : (t701 == 0) = false := beq_eq_false_iff_ne.mpr c6
  have c6b1 : (t701 != 0) = true := bne_iff_ne.mpr c6
  simp only [Option.some.injEq, Prod.mk.injEq] at H
  obtain ⟨rfl, rfl⟩ := H
  go_enter Tryd.func34, Tryd.ntmps34
  go_wp2_with (first | ((with_reducible refine gate_dst (N := 4) rfl ?_); refine bxE 4 24 #[.int .i64 a0_0, .int .i64 a0_1, .slice A0_2 l0_2.length c0_2] (by rfl) (by rfl) (by first | (go_simp; done) | (go_simp; rfl)) ?_; intro gb700 hg w13 hbox hb; have BK700 := Bk.mk (hbox); have GE700 := eB w hg; replace HB := bS w hb; clear hb hbox hg; obtain ⟨hcz14_0, hcz14_1, hcz14_2, hfz14_0, hfz14_1, hfz14_2⟩ := cz3 BK700) | ((with_reducible refine gate_callee (f := 99) rfl ?_); refine goesLM (some 15) rfl rfl Tryd.func99 (by kernel_rfl) rfl #[.agg #[.int .i64 a0_0, .int .i64 a0_1, .slice A0_2 l0_2.length c0_2], .int .i64 a1, .slice A2 l2.length c2, .slice A3 l3.length c3] rfl (by rfl) ?_; (with_reducible refine (snowlineref01_given.calls k a0_0 a0_1 _ _ l0_2 a1 _ _ l2 _ _ l3 t701 _ ?side1 ?side2 ?side3 ?side4 ?side5 ?side6 A5.out).mono ?_); (case side1 => exact cP (Kd.C_below HR0_2.out HB.out)); (case side2 => exact HC0_2.out); (case side3 => exact cP (Kd.C_below HR2.out HB.out)); (case side4 => exact HC2.out); (case side5 => exact cP (Kd.C_below HR3.out HB.out)); (case side6 => exact HC3.out); rintro e w15 ⟨rfl, hb⟩; refine ⟨_, rfl, ?_⟩; replace BK700 := kB gb700 hb; replace HB := bS w hb; (try clear hb)))
  go_ret2
  exact ⟨by first | rfl | (simp [errW_none, errW_some] <;> rfl) | (simp [*, errW_none, errW_some] <;> rfl), bw w⟩
mutual
def snowlineref01_Extend.l0 : Nat → Int → List Int → List Int → List Int → List Int → Int → Int → Int → List (S26) → Option (List Int × Bool × Int)
 | 0, _, _, _, _, _, _, _, _, _ => none
 | k + 1, x1, x2, x3, x4, x15, x16, x704000, x704001, x704002 => if x16 < (x4.length : Int) then (if 0 ≤ x16 then ((snowlineref01_drift.f k x704000 x704001 x704002 (rd x4 x16) x1).bind fun bt708 => (snowlineref01_Extend.l1 k x1 x2 x3 x4 x15 x16 bt708.2 0 x704000 x704001 x704002)) else (none)) else (some (x15, true, 0))
def snowlineref01_Extend.l1 : Nat → Int → List Int → List Int → List Int → List Int → Int → Int → Int → Int → Int → List (S26) → Option (List Int × Bool × Int)
 | 0, _, _, _, _, _, _, _, _, _, _, _ => none
 | k + 1, x1, x2, x3, x4, x15, x16, x18, x19, x704000, x704001, x704002 => if x19 < (x2.length : Int) then (if 0 ≤ x19 then (if x19 < (x3.length : Int) then (if 0 ≤ x16 then (if x16 < (x4.length : Int) then ((snowlineref01_far.f (rd x4 x16) (rd x2 x19)).bind fun t714 => (snowlineref01_Extend.l1 k x1 x2 x3 x4 x15 x16 (mn x18 (wrap64 ((rd x3 x19) + (wrap64 (x704001 * t714))))) (wrap64 (x19 + 1)) x704000 x704001 x704002)) else (none)) else (none)) else (none)) else (none)) else (if x15.length < 17592186044416 then (snowlineref01_Extend.l0 k x1 x2 x3 x4 (x15 ++ [x18]) (wrap64 (x16 + 1)) x704000 x704001 x704002) else (none))
end
def snowlineref01_Extend.f (k : Nat) (a0_0 : Int) (a0_1 : Int) (l0_2 : List (S26)) (a1 : Int) (l2 : List Int) (l3 : List Int) (l4 : List Int) : Option (List Int × Bool × Int) := (snowlineref01_given.f k a0_0 a0_1 l0_2 a1 l2 l3).bind fun t704 => (if t704 = 0 then ((snowlineref01_Rising.f k l4).bind fun t705 => (if t705 = true then ((snowlineref01_history.f k a0_0 a0_1 l0_2 a1 l2 l3).bind fun t706 => (if t706 = true then (snowlineref01_Extend.l0 k a1 l2 l3 l4 ([] : List Int) 0 a0_0 a0_1 l0_2) else (some (([] : List Int), false, 0)))) else (some (([] : List Int), false, 1)))) else (some (([] : List Int), false, t704)))
def snowlineref01_Extend.T14 : Bool × List (List Nat × List Nat) := (true, [([], []), ([], []), ([], []), ([1, 2], [1, 2]), ([3], [3]), ([], []), ([0, 4, 5], [0, 4, 5]), ([], []), ([7, 6, 6, 0, 1, 2, 3, 4, 5, 6, 7], [6, 7])])
def snowlineref01_Extend.B14 : List Nat := [0, 0, 0, 6, 14, 0, 63, 0, 255]
theorem snowlineref01_Extend.tab14 : rtab .any (opsOf Tryd.f36 14) = snowlineref01_Extend.T14 := by kernel_rfl
theorem snowlineref01_Extend.bits14 : waitsOk snowlineref01_Extend.T14.2 snowlineref01_Extend.B14 = true := by kernel_rfl
def snowlineref01_Extend.T19 : Bool × List (List Nat × List Nat) := (true, [([], []), ([], []), ([], []), ([1, 2], [1, 2]), ([3], [3]), ([], []), ([5], [5]), ([], []), ([], []), ([7, 8], [7, 8]), ([9], [9]), ([], []), ([], []), ([11, 12], [11, 12]), ([13], [13]), ([10, 14], [10, 14]), ([6, 15], [6, 15]), ([4, 16], [4, 16]), ([0, 17], [0, 17]), ([18, 15, 0, 1, 2, 3, 4, 5, 6, 7, 8, 9, 10, 11, 12, 13, 14, 15, 16, 17, 18], [0, 18])])
def snowlineref01_Extend.B19 : List Nat := [0, 0, 0, 6, 14, 0, 32, 0, 0, 384, 896, 0, 0, 6144, 14336, 32640, 65504, 131070, 262143, 524287]
theorem snowlineref01_Extend.tab19 : rtab .any (opsOf Tryd.f36 19) = snowlineref01_Extend.T19 := by kernel_rfl
theorem snowlineref01_Extend.bits19 : waitsOk snowlineref01_Extend.T19.2 snowlineref01_Extend.B19 = true := by kernel_rfl
set_option maxHeartbeats 8000000 in
set_option maxRecDepth 100000 in
theorem snowlineref01_Extend.calls (k : Nat) (a0_0 : Int) (a0_1 : Int) (A0_2 : Option Addr) (c0_2 : Nat) (l0_2 : List (S26)) (a1 : Int) (A2 : Option Addr) (c2 : Nat) (l2 : List Int) (A3 : Option Addr) (c3 : Nat) (l3 : List Int) (A4 : Option Addr) (c4 : Nat) (l4 : List Int) (r1 : List Int) (r2 : Bool) (r3 : Int) (w : World) (hr0_2 : Kd.C k26 w A0_2 l0_2.length l0_2) (hc0_2 : l0_2.length ≤ c0_2) (hr2 : Kd.C (Kd.int .i64) w A2 l2.length l2) (hc2 : l2.length ≤ c2) (hr3 : Kd.C (Kd.int .i64) w A3 l3.length l3) (hc3 : l3.length ≤ c3) (hr4 : Kd.C (Kd.int .i64) w A4 l4.length l4) (hc4 : l4.length ≤ c4) (h : snowlineref01_Extend.f k a0_0 a0_1 l0_2 a1 l2 l3 l4 = some (r1, r2, r3)) :
  Calls Tryd.prog 36 #[.agg #[.int .i64 a0_0, .int .i64 a0_1, .slice A0_2 l0_2.length c0_2], .int .i64 a1, .slice A2 l2.length c2, .slice A3 l3.length c3, .slice A4 l4.length c4] w fun e w' => ∃ v0_ : Value, e = .returned (.tuple #[v0_, .bool r2, .int .i64 r3]) ∧ Kd.R (Kd.int .i64) 3 w' w.heap.size (fun _ => True) v0_ r1 ∧ Below w.heap.size w w' := by
 have hu24 := Tryd.underlying24
 have hu40 := Tryd.underlying40
 have HR0_2 := Aside0.mk (hr0_2)
 have HC0_2 := Aside0.mk (hc0_2)
 clear hr0_2 hc0_2
 have HR2 := Aside0.mk (hr2)
 have HC2 := Aside0.mk (hc2)
 clear hr2 hc2
 have HR3 := Aside0.mk (hr3)
 have HC3 := Aside0.mk (hc3)
 clear hr3 hc3
 have HR4 := Aside0.mk (hr4)
 have HC4 := Aside0.mk (hc4)
 clear hr4 hc4
 have HB := Bw.mk (Below.refl w.heap.size w)
 have H : ((snowlineref01_given.f k a0_0 a0_1 l0_2 a1 l2 l3).bind fun t704 => (if t704 = 0 then ((snowlineref01_Rising.f k l4).bind fun t705 => (if t705 = true then ((snowlineref01_history.f k a0_0 a0_1 l0_2 a1 l2 l3).bind fun t706 => (if t706 = true then (snowlineref01_Extend.l0 k a1 l2 l3 l4 ([] : List Int) 0 a0_0 a0_1 l0_2) else (some (([] : List Int), false, 0)))) else (some (([] : List Int), false, 1)))) else (some (([] : List Int), false, t704)))) = some (r1, r2, r3) := h
 clear h
 replace H := Option.bind_eq_some_iff.mp H
 obtain ⟨t704, A60, H⟩ := H
 have A6 := Aside0.mk (A60)
 clear A60
 by_cases c7 : t704 = 0
 ·
  rw [if_pos c7] at H
  have c7b0 : (t704 == 0) = true := beq_iff_eq.mpr c7
  have c7b1 : (t704 != 0) = false := bne_eq_false_iff_eq.mpr c7
  clear c7
  replace H := Option.bind_eq_some_iff.mp H
  obtain ⟨t705, A80, H⟩ := H
  have A8 := Aside0.mk (A80)
  clear A80
  by_cases c9 : t705 = true
  ·
   subst c9
   rw [if_pos rfl] at H
   replace H := Option.bind_eq_some_iff.mp H
   obtain ⟨t706, A100, H⟩ := H
   have A10 := Aside0.mk (A100)
   clear A100
   by_cases c11 : t706 = true
   ·
    subst c11
    rw [if_pos rfl] at H
    have H' := Aside0.mk H
    clear H
    go_enter Tryd.func36, Tryd.ntmps36
    go_wp2_with (first | ((with_reducible refine gate_dst (N := 5) rfl ?_); refine bxE 5 24 #[.int .i64 a0_0, .int .i64 a0_1, .slice A0_2 l0_2.length c0_2] (by rfl) (by rfl) (by first | (go_simp; done) | (go_simp; rfl)) ?_; intro gb703 hg w12 hbox hb; have BK703 := Bk.mk (hbox); have GE703 := eB w hg; replace HB := bS w hb; clear hb hbox hg; obtain ⟨hcz13_0, hcz13_1, hcz13_2, hfz13_0, hfz13_1, hfz13_2⟩ := cz3 BK703) | ((with_reducible refine gate_callee (f := 99) rfl ?_); refine goesLM (some 24) rfl rfl Tryd.func99 (by kernel_rfl) rfl #[.agg #[.int .i64 a0_0, .int .i64 a0_1, .slice A0_2 l0_2.length c0_2], .int .i64 a1, .slice A2 l2.length c2, .slice A3 l3.length c3] rfl (by rfl) ?_; (with_reducible refine (snowlineref01_given.calls k a0_0 a0_1 _ _ l0_2 a1 _ _ l2 _ _ l3 t704 _ ?side1 ?side2 ?side3 ?side4 ?side5 ?side6 A6.out).mono ?_); (case side1 => exact cP (Kd.C_below HR0_2.out HB.out)); (case side2 => exact HC0_2.out); (case side3 => exact cP (Kd.C_below HR2.out HB.out)); (case side4 => exact HC2.out); (case side5 => exact cP (Kd.C_below HR3.out HB.out)); (case side6 => exact HC3.out); rintro e w14 ⟨rfl, hb⟩; refine ⟨_, rfl, ?_⟩; replace BK703 := kB gb703 hb; replace HB := bS w hb; (try clear hb)) | ((with_reducible refine gate_callee (f := 102) rfl ?_); refine goesLM (some 29) rfl rfl Tryd.func102 (by kernel_rfl) rfl #[.slice A4 l4.length c4] rfl (by rfl) ?_; (with_reducible refine (snowlineref01_Rising.calls k _ _ l4 true _ ?side1 ?side2 A8.out).mono ?_); (case side1 => exact cP (Kd.C_below HR4.out HB.out)); (case side2 => exact HC4.out); rintro e w' ⟨rfl, ⟨nd, rfl⟩⟩; refine ⟨_, rfl, ?_⟩; obtain ⟨hcz15_0, hcz15_1, hcz15_2, hfz15_0, hfz15_1, hfz15_2⟩ := cz3 BK703) | ((with_reducible refine gate_callee (f := 100) rfl ?_); refine goesLM (some 36) rfl rfl Tryd.func100 (by kernel_rfl) rfl #[.agg #[.int .i64 a0_0, .int .i64 a0_1, .slice A0_2 l0_2.length c0_2], .int .i64 a1, .slice A2 l2.length c2, .slice A3 l3.length c3] rfl (by rfl) ?_; (with_reducible refine (snowlineref01_history.calls k a0_0 a0_1 _ _ l0_2 a1 _ _ l2 _ _ l3 true _ ?side1 ?side2 ?side3 ?side4 ?side5 ?side6 A10.out).mono ?_); (case side1 => exact (Kd.C_below HR0_2.out (bw w))); (case side2 => exact HC0_2.out); (case side3 => exact (Kd.C_below HR2.out (bw w))); (case side4 => exact HC2.out); (case side5 => exact (Kd.C_below HR3.out (bw w))); (case side6 => exact HC3.out); rintro e w16 ⟨rfl, hb⟩; refine ⟨_, rfl, ?_⟩; replace BK703 := kB gb703 hb; replace HB := bS w hb; (try clear hb)))
    go_loopg [15, 16] k (fun kq v15 v16 w' => ∃ (x15_1 : List Int) (x16_1 : Int), v16 = .int .i64 x16_1 ∧ Aside0 (snowlineref01_Extend.l0 kq a1 l2 l3 l4 x15_1 x16_1 a0_0 a0_1 l0_2 = some (r1, r2, r3)) ∧ Aside0 (kq ≤ k) ∧ Aside0 (Kd.R (Kd.int .i64) 3 w' w.heap.size (fun _ => True) v15 x15_1) ∧ Bk w' gb703 (.cells #[.int .i64 a0_0, .int .i64 a0_1, (.slice A0_2 l0_2.length c0_2)] 24 (0, 0)) ∧ Bw w w')
    case atStart => exact ⟨(([] : List Int)), (0), (by first | rfl | (simp; done) | (simp [*]; done)), H', ⟨Nat.le_refl _⟩, ⟨by first | exact Kd.R_nil _ _ _ _ _ | exact Kd.N_nil _ _ _ _ _ | exact Kd.V_nil _ _ _ _ _ | exact Kd.Q_nil _ _ _ _ _ | exact Kd.S_nil _ _ _ _ _⟩, inferInstance, inferInstance⟩
    case round =>
     clear H'
     try clear c1
     try clear c2
     try clear p2
     try clear c3
     try clear c4
     try clear c7
     try clear c7b0
     try clear c7b1
     try clear c9
     try clear c10
     try clear c11
     obtain ⟨x15_1, x16_1, rfl, HA, HK1, HO_15, BK703, HB⟩ := hrel
     cases gk with
     | zero => exact absurd HA.out (by simp [snowlineref01_Extend.l0])
     | succ k1 =>
      have H := HA.out
      clear HA
      simp only [snowlineref01_Extend.l0] at H
      by_cases c17 : x16_1 < (l4.length : Int)
      ·
       rw [if_pos c17] at H
       have c17b0 : decide (x16_1 < (l4.length : Int)) = true := decide_eq_true c17
       clear c17
       by_cases c18 : 0 ≤ x16_1
       ·
        rw [if_pos c18] at H
        have c18b0 : decide (0 ≤ x16_1) = true := decide_eq_true c18
        clear c18
        replace H := Option.bind_eq_some_iff.mp H
        obtain ⟨⟨t708, t709⟩, A190, H⟩ := H
        have A19 := Aside0.mk (A190)
        clear A190
        have H' := Aside0.mk H
        clear H
        try go_wp2
        have n0_ := Aside0.mk (Kd.R_drew HO_15.out)
        have n1_ := Bk.mk (blk_drew BK703.out)
        have n2_ := Bw.mk (below_drew1 HB.out)
        clear HO_15 BK703 HB
        have HO_15 := n0_
        have BK703 := n1_
        have HB := n2_
        clear n0_ n1_ n2_
        have p707 : 0 ≤ (x16_1 : Int) := of_decide_eq_true (by first | (with_reducible assumption) | assumption)
        have q707 : x16_1 < (l4.length : Int) := of_decide_eq_true (by first | (with_reducible assumption) | assumption)
        obtain ⟨ad707, e707, hx707_0⟩ := Kd.at_int HR4.out x16_1 p707 q707
        have hw707_0 := hx707_0
        cases e707
        replace hx707_0 := cB HB hx707_0
        replace p707 := eq_true p707
        replace q707 := eq_true q707
        refine start_ (n := 9) (S := fun w' => w'.cell? ⟨gb703, 0, none⟩ = some (.int .i64 a0_0) ∧ w'.cell? ⟨gb703, 1, none⟩ = some (.int .i64 a0_1) ∧ w'.cell? ⟨gb703, 2, none⟩ = some (.slice A0_2 l0_2.length c0_2) ∧ w'.cell? (ad707.add (x16_1).toNat) = some (.int .i64 (rd l4 x16_1))) (ds := []) #[false, false, false, false, false, false, false, false, false] (by kernel_rfl) rfl rfl ⟨bc BK703 0, bc BK703 1, bc BK703 2, ((HB.out.cell (World.block_lt_of_cell? w _ hw707_0)).trans hw707_0)⟩ (fun hHeld => ?_); refine with_tabW snowlineref01_Extend.tab14 snowlineref01_Extend.bits14 (fun HT_ HW_ => ?_)
        generalize wr.drew = w20 at HO_15 BK703 HB hx707_0 hHeld ⊢
        refine pS 1 (some 46) rfl rfl (any_of HT_.out (by kernel_rfl)) (fun _ _ _ h => h) (by rfl) (fun w' => by go_simp; with_reducible rfl) (by simp only [Act.put, List.setIfInBounds_toArray, List.set_cons_zero, List.set_cons_succ, i64_w]; rfl) ?_
        refine pS 2 (some 47) rfl rfl (any_of HT_.out (by kernel_rfl)) (fun _ _ _ h => h) (by rfl) (fun w' => by go_simp; with_reducible rfl) (by simp only [Act.put, List.setIfInBounds_toArray, List.set_cons_zero, List.set_cons_succ, i64_w]; rfl) ?_
        refine pS 3 (some 48) rfl rfl (any_of HT_.out (by kernel_rfl)) (fun _ _ _ h => h) (by rfl) (fun w' => by go_simp; with_reducible rfl) (by simp only [Act.put, List.setIfInBounds_toArray, List.set_cons_zero, List.set_cons_succ, i64_w]; rfl) ?_
        refine pS 5 (some 50) rfl rfl (any_of HT_.out (by kernel_rfl)) (fun _ _ _ h => h) (by rfl) (fun w' => by go_simp; with_reducible rfl) (by simp only [Act.put, List.setIfInBounds_toArray, List.set_cons_zero, List.set_cons_succ, i64_w]; rfl) ?_
        refine tS 0 (some 45) rfl rfl (take_ofW HT_.out HW_.out (by kernel_rfl)) (fun _ _ _ h => h) (by rfl) (by rintro w' ⟨s0, s1, s2, s3⟩; go_simp; with_reducible rfl) hHeld (by simp only [Act.put, List.setIfInBounds_toArray, List.set_cons_zero, List.set_cons_succ, i64_w]; rfl) ?_
        refine tS 4 (some 49) rfl rfl (take_ofW HT_.out HW_.out (by kernel_rfl)) (fun _ _ _ h => h) (by rfl) (by rintro w' ⟨s0, s1, s2, s3⟩; go_simp; with_reducible rfl) hHeld (by simp only [Act.put, List.setIfInBounds_toArray, List.set_cons_zero, List.set_cons_succ, i64_w]; rfl) ?_
        refine join_ (σ := Nat) 1 #[true, true, true, true, true, true, true, true, false] (fun s_ => [(51, .agg #[.int .i64 t708, .int .i64 t709]), (17, .pointer (some ⟨s_, 0, none⟩))]) (fun s_ w' => (w'.cell? ⟨gb703, 0, none⟩ = some (.int .i64 a0_0) ∧ w'.cell? ⟨gb703, 1, none⟩ = some (.int .i64 a0_1) ∧ w'.cell? ⟨gb703, 2, none⟩ = some (.slice A0_2 l0_2.length c0_2) ∧ w'.cell? (ad707.add (x16_1).toNat) = some (.int .i64 (rd l4 x16_1))) ∧ (Kd.R (Kd.int .i64) 3 w' w.heap.size (fun _ => True) u15 x15_1) ∧ (w'.heap[gb703]? = some (.cells #[.int .i64 a0_0, .int .i64 a0_1, .slice A0_2 l0_2.length c0_2] 24 (0, 0))) ∧ (w'.heap[s_]? = some (.cells #[.int .i64 0, .int .i64 0] 40 (0, 0))) ∧ (w.heap.size ≤ s_) ∧ (w.heap.size ≤ s_) ∧ (gb703 ≠ s_) ∧ (s_ ≠ gb703) ∧ (Below w.heap.size w w')) ?_ ?_
        rotate_left
        ·
         intro hCont
         refine two_ (i := 6) (j := 7) (Ni := some 51) (Nj := some 17) #[true, true, true, true, true, true, true, false, false] #[true, true, true, true, true, true, false, true, false] rfl rfl rfl rfl (two_of HT_.out (by kernel_rfl)) (by decide) (by decide) (fun K hK => ?_) (fun K hK => ?_)
         ·
          skip
          refine goesM Tryd.func78 (by kernel_rfl) rfl #[.agg #[.int .i64 a0_0, .int .i64 a0_1, .slice A0_2 l0_2.length c0_2], .int .i64 (rd l4 x16_1), .int .i64 a1] (by rfl) rfl rfl (by rfl) ?_
          with_reducible refine (snowlineref01_drift.calls k1 a0_0 a0_1 _ _ l0_2 (rd l4 x16_1) a1 t708 t709 _ ?side1 ?side2 A19.out).mono ?_
          (case side1 => exact cP (Kd.C_below HR0_2.out HB.out))
          (case side2 => exact HC0_2.out)
          rintro e w21 ⟨rfl, hb⟩
          refine ⟨_, rfl, ?_⟩
          replace HO_15 := rB HO_15 hb
          replace BK703 := kB gb703 hb
          replace HB := bS w hb
          (try clear hb)
          refine hK.out _ _ ⟨bc BK703 0, bc BK703 1, bc BK703 2, ((HB.out.cell (World.block_lt_of_cell? w _ hw707_0)).trans hw707_0)⟩ (fun hHeld => ?_)
          clear hK K
          refine norm_ (a' := ?_) ?_ ?_
          rotate_left
          ·
           show Act.put _ (some 51) _ = _
           simp only [Act.put, List.setIfInBounds_toArray, List.set_cons_zero, List.set_cons_succ, i64_w]
           rfl
          refine one_ (i := 7) (N := some 17) #[true, true, true, true, true, true, true, true, false] rfl rfl (one_of HT_.out (by kernel_rfl)) (by decide) (fun K hK => ?_)
          refine box_step ?hg (N := 17) ?hd (cs := #[.int .i64 0, .int .i64 0]) (t := 40) ?hr ?_; (case hd => rfl); (case hg => rfl); (case hr => first | (go_simp; done) | (go_simp; rfl))
          intro gb710 hg w22 hbox hb
          have BK710 := Bk.mk (hbox)
          have GW710 := eB w hg
          have GE710 := eB w hg
          have NB703_710 := nB gb703 hg
          have NB710_703 := nB' gb703 hg
          replace HO_15 := rB HO_15 hb
          replace BK703 := kB gb703 hb
          replace HB := bS w hb
          clear hb hbox hg
          refine hK.out _ _ ⟨bc BK703 0, bc BK703 1, bc BK703 2, ((HB.out.cell (World.block_lt_of_cell? w _ hw707_0)).trans hw707_0)⟩ (fun hHeld => ?_)
          clear hK K
          refine norm_ (a' := ?_) ?_ ?_
          rotate_left
          ·
           show Act.put _ (some 17) _ = _
           simp only [Act.put, List.setIfInBounds_toArray, List.set_cons_zero, List.set_cons_succ, i64_w]
           rfl
          exact norm_ (by simp only [putAll, Act.put, List.setIfInBounds_toArray, List.set_cons_zero, List.set_cons_succ]) (hCont (gb710) _ ⟨hHeld, (by (with_reducible repeat (first | apply Kd.R_alloc | apply Kd.R_drewN | apply Kd.R_drew)); exact HO_15.out), (bk _ gb703), (bk _ gb710), GW710.out, GE710.out, NB703_710.out, NB710_703.out, (bw w)⟩)
         ·
          skip
          refine box_step ?hg (N := 17) ?hd (cs := #[.int .i64 0, .int .i64 0]) (t := 40) ?hr ?_; (case hd => rfl); (case hg => rfl); (case hr => first | (go_simp; done) | (go_simp; rfl))
          intro gb710 hg w21 hbox hb
          have BK710 := Bk.mk (hbox)
          have GW710 := eB w hg
          have GE710 := eB w hg
          have NB703_710 := nB gb703 hg
          have NB710_703 := nB' gb703 hg
          replace HO_15 := rB HO_15 hb
          replace BK703 := kB gb703 hb
          replace HB := bS w hb
          clear hb hbox hg
          refine hK.out _ _ ⟨bc BK703 0, bc BK703 1, bc BK703 2, ((HB.out.cell (World.block_lt_of_cell? w _ hw707_0)).trans hw707_0)⟩ (fun hHeld => ?_)
          clear hK K
          refine norm_ (a' := ?_) ?_ ?_
          rotate_left
          ·
           show Act.put _ (some 17) _ = _
           simp only [Act.put, List.setIfInBounds_toArray, List.set_cons_zero, List.set_cons_succ, i64_w]
           rfl
          refine one_ (i := 6) (N := some 51) #[true, true, true, true, true, true, true, true, false] rfl rfl (one_of HT_.out (by kernel_rfl)) (by decide) (fun K hK => ?_)
          refine goesM Tryd.func78 (by kernel_rfl) rfl #[.agg #[.int .i64 a0_0, .int .i64 a0_1, .slice A0_2 l0_2.length c0_2], .int .i64 (rd l4 x16_1), .int .i64 a1] (by rfl) rfl rfl (by rfl) ?_
          with_reducible refine (snowlineref01_drift.calls k1 a0_0 a0_1 _ _ l0_2 (rd l4 x16_1) a1 t708 t709 _ ?side1 ?side2 A19.out).mono ?_
          (case side1 => exact cP (Kd.C_below HR0_2.out HB.out))
          (case side2 => exact HC0_2.out)
          rintro e w22 ⟨rfl, hb⟩
          refine ⟨_, rfl, ?_⟩
          replace HO_15 := rB HO_15 hb
          replace BK703 := kB gb703 hb
          replace BK710 := kB gb710 hb
          replace HB := bS w hb
          (try clear hb)
          refine hK.out _ _ ⟨bc BK703 0, bc BK703 1, bc BK703 2, ((HB.out.cell (World.block_lt_of_cell? w _ hw707_0)).trans hw707_0)⟩ (fun hHeld => ?_)
          clear hK K
          refine norm_ (a' := ?_) ?_ ?_
          rotate_left
          ·
           show Act.put _ (some 51) _ = _
           simp only [Act.put, List.setIfInBounds_toArray, List.set_cons_zero, List.set_cons_succ, i64_w]
           rfl
          exact norm_ (by simp only [putAll, Act.put, List.setIfInBounds_toArray, List.set_cons_zero, List.set_cons_succ]) (hCont (gb710) _ ⟨hHeld, (by (with_reducible repeat (first | apply Kd.R_alloc | apply Kd.R_drewN | apply Kd.R_drew)); exact HO_15.out), (bk _ gb703), (bk _ gb710), GW710.out, GE710.out, NB703_710.out, NB710_703.out, (bw w)⟩)
        rintro gb710 w23 ⟨hS_, h0_, h1_, h2_, h3_, h4_, h5_, h6_, h7_⟩
        have n0_ : Aside0 (Kd.R (Kd.int .i64) 3 w23 w.heap.size (fun _ => True) u15 x15_1) := ⟨h0_⟩
        have n1_ : Bk w23 gb703 (.cells #[.int .i64 a0_0, .int .i64 a0_1, .slice A0_2 l0_2.length c0_2] 24 (0, 0)) := ⟨h1_⟩
        have n2_ : Bk w23 gb710 (.cells #[.int .i64 0, .int .i64 0] 40 (0, 0)) := ⟨h2_⟩
        have n3_ : Ge w gb710 := ⟨h3_⟩
        have n4_ : Ge w gb710 := ⟨h4_⟩
        have n5_ : Nb gb703 gb710 := ⟨h5_⟩
        have n6_ : Nb gb710 gb703 := ⟨h6_⟩
        have n7_ : Bw w w23 := ⟨h7_⟩
        clear HO_15 BK703 HB h0_ h1_ h2_ h3_ h4_ h5_ h6_ h7_
        have HO_15 := n0_
        have BK703 := n1_
        have BK710 := n2_
        have GW710 := n3_
        have GE710 := n4_
        have NB703_710 := n5_
        have NB710_703 := n6_
        have HB := n7_
        clear n0_ n1_ n2_ n3_ n4_ n5_ n6_ n7_
        have hHeld : w23.cell? ⟨gb703, 0, none⟩ = some (.int .i64 a0_0) ∧ w23.cell? ⟨gb703, 1, none⟩ = some (.int .i64 a0_1) ∧ w23.cell? ⟨gb703, 2, none⟩ = some (.slice A0_2 l0_2.length c0_2) ∧ w23.cell? (ad707.add (x16_1).toNat) = some (.int .i64 (rd l4 x16_1)) := hS_
        refine norm_ (a' := ?_) ?_ ?_
        rotate_left
        ·
         simp only [putAll, Act.put, List.setIfInBounds_toArray, List.set_cons_zero, List.set_cons_succ]
         rfl
        refine one_ (i := 8) (N := none) #[true, true, true, true, true, true, true, true, true] rfl rfl (one_of HT_.out (by kernel_rfl)) (by decide) (fun K hK => ?_)
        have hs24 : w23.cell? ⟨gb710, 0, none⟩ = some (.int .i64 0) := bc BK710 0
        have hfs24 := blk_frozen BK710.out 0
        have hns24_0 := NB703_710.out
        have hms24_0 := NB710_703.out
        have hs25 : w23.cell? ⟨gb710, 1, none⟩ = some (.int .i64 0) := bc BK710 1
        have hfs25 := blk_frozen BK710.out 1
        have hns25_0 := NB703_710.out
        have hms25_0 := NB710_703.out
        refine skip_ (w1 := ?_) (by rfl) rfl ?_ ?_
        rotate_left
        ·
         go_simp
         rfl
        refine hK.out _ _ ⟨((cell_far (p := ⟨gb710, _, none⟩) NB703_710.out _).trans (((cell_far (p := ⟨gb710, _, none⟩) NB703_710.out _).trans (hHeld.1)))), ((cell_far (p := ⟨gb710, _, none⟩) NB703_710.out _).trans (((cell_far (p := ⟨gb710, _, none⟩) NB703_710.out _).trans (hHeld.2.1)))), ((cell_far (p := ⟨gb710, _, none⟩) NB703_710.out _).trans (((cell_far (p := ⟨gb710, _, none⟩) NB703_710.out _).trans (hHeld.2.2.1)))), ((cell_far (p := ⟨gb710, _, none⟩) (by first | exact Nat.ne_of_lt (Nat.lt_of_lt_of_le (by have := World.block_lt_of_cell? _ _ hw707_0; first | rwa [add_block] at this | exact this) GW710.out) | (rw [add_block]; exact Nat.ne_of_lt (Nat.lt_of_lt_of_le (by have := World.block_lt_of_cell? _ _ hw707_0; first | rwa [add_block] at this | exact this) GW710.out)) | (show (Addr.add _ _).block ≠ _; rw [add_block]; exact Nat.ne_of_lt (Nat.lt_of_lt_of_le (by have := World.block_lt_of_cell? _ _ hw707_0; first | rwa [add_block] at this | exact this) GW710.out)) | (dsimp only; exact Nat.ne_of_lt (Nat.lt_of_lt_of_le (by have := World.block_lt_of_cell? _ _ hw707_0; first | rwa [add_block] at this | exact this) GW710.out))) _).trans (((cell_far (p := ⟨gb710, _, none⟩) (by first | exact Nat.ne_of_lt (Nat.lt_of_lt_of_le (by have := World.block_lt_of_cell? _ _ hw707_0; first | rwa [add_block] at this | exact this) GW710.out) | (rw [add_block]; exact Nat.ne_of_lt (Nat.lt_of_lt_of_le (by have := World.block_lt_of_cell? _ _ hw707_0; first | rwa [add_block] at this | exact this) GW710.out)) | (show (Addr.add _ _).block ≠ _; rw [add_block]; exact Nat.ne_of_lt (Nat.lt_of_lt_of_le (by have := World.block_lt_of_cell? _ _ hw707_0; first | rwa [add_block] at this | exact this) GW710.out)) | (dsimp only; exact Nat.ne_of_lt (Nat.lt_of_lt_of_le (by have := World.block_lt_of_cell? _ _ hw707_0; first | rwa [add_block] at this | exact this) GW710.out))) _).trans (hHeld.2.2.2))))⟩ (fun hHeld => ?_)
        clear hK K
        refine done_ (done_of HT_.out (by kernel_rfl)) ?_
        have hnb26 := NB710_703.out
        have hnc26 := NB703_710.out
        obtain ⟨hcz27_0, hcz27_1, hfz27_0, hfz27_1⟩ := cz2 BK710
        try go_wp2
        go_loopg [18, 19] k1 (fun kq v18 v19 w' => ∃ (x18_2 : Int) (x19_2 : Int), v18 = .int .i64 x18_2 ∧ v19 = .int .i64 x19_2 ∧ Aside0 (snowlineref01_Extend.l1 kq a1 l2 l3 l4 x15_1 x16_1 x18_2 x19_2 a0_0 a0_1 l0_2 = some (r1, r2, r3)) ∧ Aside0 (kq ≤ k1) ∧ Aside0 (Kd.R (Kd.int .i64) 3 w' w.heap.size (fun _ => True) u15 x15_1) ∧ Bk w' gb703 (.cells #[.int .i64 a0_0, .int .i64 a0_1, (.slice A0_2 l0_2.length c0_2)] 24 (0, 0)) ∧ Bk w' gb710 (.cells #[.int .i64 t708, .int .i64 t709] 40 (0, 0)) ∧ Bw w w')
        case atStart => exact ⟨(t709), (0), (by first | rfl | (simp; done) | (simp [*]; done)), (by first | rfl | (simp; done) | (simp [*]; done)), H', ⟨Nat.le_refl _⟩, ⟨by (with_reducible repeat (first | apply Kd.R_alloc | apply Kd.R_drewN | apply Kd.R_drew)); exact Kd.R_mono (Kd.R_far (p := ⟨gb710, 1, none⟩) (Kd.R_far (p := ⟨gb710, 0, none⟩) (Kd.R_types HO_15.out BK710.out (by decide)) (fun _ hk => hk.2) (.int .i64 t708)) (fun _ hk => hk.2) (.int .i64 t709)) (fun _ hk => trivial)⟩, ⟨bko gb703 (by rfl)⟩, ⟨bko gb710 (by rfl)⟩, inferInstance⟩
        case round =>
         clear H'
         try clear c1
         try clear c2
         try clear p2
         try clear c3
         try clear c4
         try clear c7
         try clear c7b0
         try clear c7b1
         try clear p7
         try clear q7
         try clear hx7
         try clear c9
         try clear c10
         try clear c11
         try clear c17
         try clear c17b0
         try clear c18
         try clear c18b0
         try clear c26
         try clear hx707_0
         try clear p2
         try clear p707
         try clear q707
         obtain ⟨x18_2, x19_2, rfl, rfl, HA, HK2, HO_15, BK703, BK710, HB⟩ := hrel
         cases gk with
         | zero => exact absurd HA.out (by simp [snowlineref01_Extend.l1])
         | succ k2 =>
          have H := HA.out
          clear HA
          simp only [snowlineref01_Extend.l1] at H
          by_cases c28 : x19_2 < (l2.length : Int)
          ·
           rw [if_pos c28] at H
           have c28b0 : decide (x19_2 < (l2.length : Int)) = true := decide_eq_true c28
           clear c28
           by_cases c29 : 0 ≤ x19_2
           ·
            rw [if_pos c29] at H
            have c29b0 : decide (0 ≤ x19_2) = true := decide_eq_true c29
            clear c29
            by_cases c30 : x19_2 < (l3.length : Int)
            ·
             rw [if_pos c30] at H
             have c30b0 : decide (x19_2 < (l3.length : Int)) = true := decide_eq_true c30
             clear c30
             by_cases c31 : 0 ≤ x16_1
             ·
              rw [if_pos c31] at H
              have c31b0 : decide (0 ≤ x16_1) = true := decide_eq_true c31
              clear c31
              by_cases c32 : x16_1 < (l4.length : Int)
              ·
               rw [if_pos c32] at H
               have c32b0 : decide (x16_1 < (l4.length : Int)) = true := decide_eq_true c32
               clear c32
               replace H := Option.bind_eq_some_iff.mp H
               obtain ⟨t714, A330, H⟩ := H
               have A33 := Aside0.mk (A330)
               clear A330
               obtain ⟨ji34, hji34⟩ : ∃ j_ : Int, (mn x18_2 (wrap64 ((rd l3 x19_2) + (wrap64 (a0_1 * t714))))) = j_ := ⟨_, rfl⟩
               replace H : (snowlineref01_Extend.l1 k2 a1 l2 l3 l4 x15_1 x16_1 ji34 (wrap64 (x19_2 + 1)) a0_0 a0_1 l0_2) = some (r1, r2, r3) := by first | (rw [hji34] at H; exact H) | (simp only [hji34] at H ⊢; exact H)
               (try rw [hji34] at A33)
               have hji34_ : (if (wrap64 ((rd l3 x19_2) + (wrap64 (a0_1 * t714)))) < x18_2 then (wrap64 ((rd l3 x19_2) + (wrap64 (a0_1 * t714)))) else x18_2) = ji34 := hji34
               have H' := Aside0.mk H
               clear H
               try go_wp2
               have n0_ := Aside0.mk (Kd.R_drew HO_15.out)
               have n1_ := Bk.mk (blk_drew BK703.out)
               have n2_ := Bk.mk (blk_drew BK710.out)
               have n3_ := Bw.mk (below_drew1 HB.out)
               clear HO_15 BK703 BK710 HB
               have HO_15 := n0_
               have BK703 := n1_
               have BK710 := n2_
               have HB := n3_
               clear n0_ n1_ n2_ n3_
               have p711 : 0 ≤ (x19_2 : Int) := of_decide_eq_true (by first | (with_reducible assumption) | assumption)
               have q711 : x19_2 < (l3.length : Int) := of_decide_eq_true (by first | (with_reducible assumption) | assumption)
               obtain ⟨ad711, e711, hx711_0⟩ := Kd.at_int HR3.out x19_2 p711 q711
               have hw711_0 := hx711_0
               cases e711
               replace hx711_0 := cB HB hx711_0
               replace p711 := eq_true p711
               replace q711 := eq_true q711
               have p712 : 0 ≤ (x16_1 : Int) := of_decide_eq_true (by first | (with_reducible assumption) | assumption)
               have q712 : x16_1 < (l4.length : Int) := of_decide_eq_true (by first | (with_reducible assumption) | assumption)
               obtain ⟨ad712, e712, hx712_0⟩ := Kd.at_int HR4.out x16_1 p712 q712
               have hw712_0 := hx712_0
               obtain rfl : ad707 = ad712 := (by injection e712)
               replace hx712_0 := cB HB hx712_0
               replace p712 := eq_true p712
               replace q712 := eq_true q712
               have p713 : 0 ≤ (x19_2 : Int) := of_decide_eq_true (by first | (with_reducible assumption) | assumption)
               have q713 : x19_2 < (l2.length : Int) := of_decide_eq_true (by first | (with_reducible assumption) | assumption)
               obtain ⟨ad713, e713, hx713_0⟩ := Kd.at_int HR2.out x19_2 p713 q713
               have hw713_0 := hx713_0
               cases e713
               replace hx713_0 := cB HB hx713_0
               replace p713 := eq_true p713
               replace q713 := eq_true q713
               refine start_ (n := 20) (S := fun w' => w'.cell? ⟨gb703, 0, none⟩ = some (.int .i64 a0_0) ∧ w'.cell? ⟨gb703, 1, none⟩ = some (.int .i64 a0_1) ∧ w'.cell? ⟨gb703, 2, none⟩ = some (.slice A0_2 l0_2.length c0_2) ∧ w'.cell? (ad711.add (x19_2).toNat) = some (.int .i64 (rd l3 x19_2)) ∧ w'.cell? (ad707.add (x16_1).toNat) = some (.int .i64 (rd l4 x16_1)) ∧ w'.cell? (ad713.add (x19_2).toNat) = some (.int .i64 (rd l2 x19_2))) (ds := []) #[false, false, false, false, false, false, false, false, false, false, false, false, false, false, false, false, false, false, false, false] (by kernel_rfl) rfl rfl ⟨bc BK703 0, bc BK703 1, bc BK703 2, ((HB.out.cell (World.block_lt_of_cell? w _ hw711_0)).trans hw711_0), ((HB.out.cell (World.block_lt_of_cell? w _ hw712_0)).trans hw712_0), ((HB.out.cell (World.block_lt_of_cell? w _ hw713_0)).trans hw713_0)⟩ (fun hHeld => ?_); refine with_tabW snowlineref01_Extend.tab19 snowlineref01_Extend.bits19 (fun HT_ HW_ => ?_)
               generalize wr.drew = w35 at HO_15 BK703 BK710 HB hx711_0 hx712_0 hx713_0 hHeld ⊢
               refine pS 0 (some 60) rfl rfl (any_of HT_.out (by kernel_rfl)) (fun _ _ _ h => h) (by rfl) (fun w' => by go_simp; with_reducible rfl) (by simp only [Act.put, List.setIfInBounds_toArray, List.set_cons_zero, List.set_cons_succ, i64_w]; rfl) ?_
               refine pS 1 (some 61) rfl rfl (any_of HT_.out (by kernel_rfl)) (fun _ _ _ h => h) (by rfl) (fun w' => by go_simp; with_reducible rfl) (by simp only [Act.put, List.setIfInBounds_toArray, List.set_cons_zero, List.set_cons_succ, i64_w]; rfl) ?_
               refine pS 2 (some 62) rfl rfl (any_of HT_.out (by kernel_rfl)) (fun _ _ _ h => h) (by rfl) (fun w' => by go_simp; with_reducible rfl) (by simp only [Act.put, List.setIfInBounds_toArray, List.set_cons_zero, List.set_cons_succ, i64_w]; rfl) ?_
               refine pS 3 (some 63) rfl rfl (any_of HT_.out (by kernel_rfl)) (fun _ _ _ h => h) (by rfl) (fun w' => by go_simp; with_reducible rfl) (by simp only [Act.put, List.setIfInBounds_toArray, List.set_cons_zero, List.set_cons_succ, i64_w]; rfl) ?_
               refine pS 5 (some 65) rfl rfl (any_of HT_.out (by kernel_rfl)) (fun _ _ _ h => h) (by rfl) (fun w' => by go_simp; with_reducible rfl) (by simp only [Act.put, List.setIfInBounds_toArray, List.set_cons_zero, List.set_cons_succ, i64_w]; rfl) ?_
               refine pS 7 (some 67) rfl rfl (any_of HT_.out (by kernel_rfl)) (fun _ _ _ h => h) (by rfl) (fun w' => by go_simp; with_reducible rfl) (by simp only [Act.put, List.setIfInBounds_toArray, List.set_cons_zero, List.set_cons_succ, i64_w]; rfl) ?_
               refine pS 8 (some 68) rfl rfl (any_of HT_.out (by kernel_rfl)) (fun _ _ _ h => h) (by rfl) (fun w' => by go_simp; with_reducible rfl) (by simp only [Act.put, List.setIfInBounds_toArray, List.set_cons_zero, List.set_cons_succ, i64_w]; rfl) ?_
               refine pS 9 (some 69) rfl rfl (any_of HT_.out (by kernel_rfl)) (fun _ _ _ h => h) (by rfl) (fun w' => by go_simp; with_reducible rfl) (by simp only [Act.put, List.setIfInBounds_toArray, List.set_cons_zero, List.set_cons_succ, i64_w]; rfl) ?_
               refine pS 11 (some 71) rfl rfl (any_of HT_.out (by kernel_rfl)) (fun _ _ _ h => h) (by rfl) (fun w' => by go_simp; with_reducible rfl) (by simp only [Act.put, List.setIfInBounds_toArray, List.set_cons_zero, List.set_cons_succ, i64_w]; rfl) ?_
               refine pS 12 (some 72) rfl rfl (any_of HT_.out (by kernel_rfl)) (fun _ _ _ h => h) (by rfl) (fun w' => by go_simp; with_reducible rfl) (by simp only [Act.put, List.setIfInBounds_toArray, List.set_cons_zero, List.set_cons_succ, i64_w]; rfl) ?_
               refine pS 13 (some 73) rfl rfl (any_of HT_.out (by kernel_rfl)) (fun _ _ _ h => h) (by rfl) (fun w' => by go_simp; with_reducible rfl) (by simp only [Act.put, List.setIfInBounds_toArray, List.set_cons_zero, List.set_cons_succ, i64_w]; rfl) ?_
               refine tS 4 (some 64) rfl rfl (take_ofW HT_.out HW_.out (by kernel_rfl)) (fun _ _ _ h => h) (by rfl) (by rintro w' ⟨s0, s1, s2, s3, s4, s5⟩; go_simp; with_reducible rfl) hHeld (by simp only [Act.put, List.setIfInBounds_toArray, List.set_cons_zero, List.set_cons_succ, i64_w]; rfl) ?_
               refine tS 6 (some 66) rfl rfl (take_ofW HT_.out HW_.out (by kernel_rfl)) (fun _ _ _ h => h) (by rfl) (by rintro w' ⟨s0, s1, s2, s3, s4, s5⟩; go_simp; with_reducible rfl) hHeld (by simp only [Act.put, List.setIfInBounds_toArray, List.set_cons_zero, List.set_cons_succ, i64_w]; rfl) ?_
               refine tS 10 (some 70) rfl rfl (take_ofW HT_.out HW_.out (by kernel_rfl)) (fun _ _ _ h => h) (by rfl) (by rintro w' ⟨s0, s1, s2, s3, s4, s5⟩; go_simp; with_reducible rfl) hHeld (by simp only [Act.put, List.setIfInBounds_toArray, List.set_cons_zero, List.set_cons_succ, i64_w]; rfl) ?_
               refine tS 14 (some 74) rfl rfl (take_ofW HT_.out HW_.out (by kernel_rfl)) (fun _ _ _ h => h) (by rfl) (by rintro w' ⟨s0, s1, s2, s3, s4, s5⟩; go_simp; with_reducible rfl) hHeld (by simp only [Act.put, List.setIfInBounds_toArray, List.set_cons_zero, List.set_cons_succ, i64_w]; rfl) ?_
               refine one_ (i := 15) (N := some 75) #[true, true, true, true, true, true, true, true, true, true, true, true, true, true, true, true, false, false, false, false] rfl rfl (one_of HT_.out (by kernel_rfl)) (by decide) (fun K hK => ?_)
               refine goesM Tryd.func103 (by kernel_rfl) rfl #[.int .i64 (rd l4 x16_1), .int .i64 (rd l2 x19_2)] (by rfl) rfl rfl (by rfl) ?_
               with_reducible refine (snowlineref01_far.calls (rd l4 x16_1) (rd l2 x19_2) t714 _ A33.out).mono ?_
               rintro e w' ⟨rfl, ⟨nd, rfl⟩⟩
               refine ⟨_, rfl, ?_⟩
               refine hK.out _ _ ⟨bc BK703 0, bc BK703 1, bc BK703 2, ((HB.out.cell (World.block_lt_of_cell? w _ hw711_0)).trans hw711_0), ((HB.out.cell (World.block_lt_of_cell? w _ hw712_0)).trans hw712_0), ((HB.out.cell (World.block_lt_of_cell? w _ hw713_0)).trans hw713_0)⟩ (fun hHeld => ?_)
               clear hK K
               refine norm_ (a' := ?_) ?_ ?_
               rotate_left
               ·
                show Act.put _ (some 75) _ = _
                simp only [Act.put, List.setIfInBounds_toArray, List.set_cons_zero, List.set_cons_succ, i64_w]
                rfl
               refine pS 16 (some 76) rfl rfl (any_of HT_.out (by kernel_rfl)) (fun _ _ _ h => h) (by rfl) (fun w' => by go_simp; with_reducible rfl) (by simp only [Act.put, List.setIfInBounds_toArray, List.set_cons_zero, List.set_cons_succ, i64_w]; rfl) ?_
               refine pS 17 (some 77) rfl rfl (any_of HT_.out (by kernel_rfl)) (fun _ _ _ h => h) (by rfl) (fun w' => by go_simp; with_reducible rfl) (by simp only [Act.put, List.setIfInBounds_toArray, List.set_cons_zero, List.set_cons_succ, i64_w]; rfl) ?_
               refine pS 18 (some 78) rfl rfl (any_of HT_.out (by kernel_rfl)) (fun _ _ _ h => h) (by rfl) (fun w' => by go_simp; with_reducible rfl) (by simp only [Act.put, List.setIfInBounds_toArray, List.set_cons_zero, List.set_cons_succ, i64_w]; rfl) ?_
               refine pS 19 (some 18) rfl rfl (any_of HT_.out (by kernel_rfl)) (fun _ _ _ h => h) (by rfl) (fun w' => by go_simp; with_reducible rfl) (by simp only [Act.put, List.setIfInBounds_toArray, List.set_cons_zero, List.set_cons_succ, i64_w]; rfl) ?_
               refine done_ (done_of HT_.out (by kernel_rfl)) ?_
               try go_wp2
               go_roundg k2
               case measure => have := HK1.out; have := HK2.out; omega
               case rel => exact ⟨(ji34), (wrap64 (x19_2 + 1)), (by first | rfl | (simp; done) | (simp only [← hji34] <;> (first | rfl | simp)) | (simp [*]; done)), (by first | rfl | (simp; done) | (simp [*]; done)), H', ⟨by have := HK1.out; have := HK2.out; omega⟩, ⟨by (with_reducible repeat (first | apply Kd.R_alloc | apply Kd.R_drewN | apply Kd.R_drew)); exact HO_15.out⟩, inferInstance, inferInstance, inferInstance⟩
              ·
               rw [if_neg c32] at H
               exact absurd H (by simp)
             ·
              rw [if_neg c31] at H
              exact absurd H (by simp)
            ·
             rw [if_neg c30] at H
             exact absurd H (by simp)
           ·
            rw [if_neg c29] at H
            exact absurd H (by simp)
          ·
           rw [if_neg c28] at H
           have c28b0 : decide (x19_2 < (l2.length : Int)) = false := decide_eq_false c28
           clear c28
           by_cases c36 : x15_1.length < 17592186044416
           ·
            rw [if_pos c36] at H
            have LMc36 := Aside0.mk (c36)
            clear c36
            obtain ⟨y715, hy715⟩ : ∃ y_ : List Int, y_ = (x15_1 ++ [x18_2]) := ⟨_, rfl⟩
            replace H : (snowlineref01_Extend.l0 k2 a1 l2 l3 l4 y715 (wrap64 (x16_1 + 1)) a0_0 a0_1 l0_2) = some (r1, r2, r3) := by first | (rw [hy715]; with_reducible exact H) | (have H2_ := (Option.bind_some _ _).symm.trans H; rw [hy715]; with_reducible exact H2_) | (have H2_ := (Option.bind_some _ _).symm.trans H; with_reducible exact H2_) | with_reducible exact H | (rw [hy715]; exact H) | exact H
            have Ny715 := Aside0.mk (hy715)
            clear hy715
            have H' := Aside0.mk H
            clear H
            go_wp2_with (first | ((with_reducible refine gate_builtin (b := .append) (xs := #[.tmp 79, .tmp 81]) rfl ?_); at_builtin; refine Kd.R_append (Kd.int .i64) (w0 := w) w.heap.size rfl (.tmp 79) (.tmp 81) 51 3 (.int .i64 0) 8 rfl Tryd.underlying51 info3 rfl (by decide) (by omega) u15 x15_1 x18_2 [.int .i64 x18_2] (fun _ => True) (fun _ => False) rfl rfl ?aP (fun _ hk => hk.elim) ?aF ?aO ?aB ?aS ?aL ?_; (case aP => exact rfl); (case aB => exact (bw w)); (case aF => exact (fun _ _ => trivial)); (case aO => exact (by (with_reducible repeat (first | apply Kd.R_alloc | apply Kd.R_drewN | apply Kd.R_drew)); exact HO_15.out)); (case aS => exact (bz w)); (case aL => have := LMc36.out; omega); intro v716 w37 ho hb hg hat; rw [← Ny715.out] at ho; have n0_ := Bk.mk (blk_grown (g := gb703) (o := .cells #[.int .i64 a0_0, .int .i64 a0_1, .slice A0_2 l0_2.length c0_2] 24 (0, 0)) (bk _ gb703) hg (Kd.R_ne HO_15.out BK703.out (by decide))); have n1_ := Bk.mk (blk_grown (g := gb710) (o := .cells #[.int .i64 t708, .int .i64 t709] 40 (0, 0)) (bk _ gb710) hg (Kd.R_ne HO_15.out BK710.out (by decide))); have n2_ := Bw.mk (hb); have n3_ := Aside0.mk (ho); clear BK703 BK710 HB HO_15; have BK703 := n0_; have BK710 := n1_; have HB := n2_; have HO717 := n3_; clear n0_ n1_ n2_ n3_ ho hb hg hat))
            go_roundg k2
            case measure => have := HK1.out; have := HK2.out; omega
            case rel => exact ⟨(y715), (wrap64 (x16_1 + 1)), (by first | rfl | (simp; done) | (simp [*]; done)), H', ⟨by have := HK1.out; have := HK2.out; omega⟩, ⟨by (with_reducible repeat (first | apply Kd.R_alloc | apply Kd.R_drewN | apply Kd.R_drew)); exact HO717.out⟩, inferInstance, inferInstance⟩
           ·
            rw [if_neg c36] at H
            exact absurd H (by simp)
       ·
        rw [if_neg c18] at H
        exact absurd H (by simp)
      ·
       rw [if_neg c17] at H
       have c17b0 : decide (x16_1 < (l4.length : Int)) = false := decide_eq_false c17
       clear c17
       simp only [Option.some.injEq, Prod.mk.injEq] at H
       obtain ⟨rfl, rfl, rfl⟩ := H
       go_wp2
       go_ret3
       exact ⟨_, by first | rfl | (simp [errW_none, errW_some] <;> rfl) | (simp [*, errW_none, errW_some] <;> rfl), by (with_reducible repeat (first | apply Kd.R_alloc | apply Kd.R_drewN | apply Kd.R_drew)); exact HO_15.out, bw w⟩
   ·
    replace c11 := Bool.eq_false_iff.mpr c11
    subst c11
    rw [if_neg (show ¬ (false = true) by decide)] at H
    simp only [Option.some.injEq, Prod.mk.injEq] at H
    obtain ⟨rfl, rfl, rfl⟩ := H
    go_enter Tryd.func36, Tryd.ntmps36
    go_wp2_with (first | ((with_reducible refine gate_dst (N := 5) rfl ?_); refine bxE 5 24 #[.int .i64 a0_0, .int .i64 a0_1, .slice A0_2 l0_2.length c0_2] (by rfl) (by rfl) (by first | (go_simp; done) | (go_simp; rfl)) ?_; intro gb703 hg w38 hbox hb; have BK703 := Bk.mk (hbox); have GE703 := eB w hg; replace HB := bS w hb; clear hb hbox hg; obtain ⟨hcz39_0, hcz39_1, hcz39_2, hfz39_0, hfz39_1, hfz39_2⟩ := cz3 BK703) | ((with_reducible refine gate_callee (f := 99) rfl ?_); refine goesLM (some 24) rfl rfl Tryd.func99 (by kernel_rfl) rfl #[.agg #[.int .i64 a0_0, .int .i64 a0_1, .slice A0_2 l0_2.length c0_2], .int .i64 a1, .slice A2 l2.length c2, .slice A3 l3.length c3] rfl (by rfl) ?_; (with_reducible refine (snowlineref01_given.calls k a0_0 a0_1 _ _ l0_2 a1 _ _ l2 _ _ l3 t704 _ ?side1 ?side2 ?side3 ?side4 ?side5 ?side6 A6.out).mono ?_); (case side1 => exact cP (Kd.C_below HR0_2.out HB.out)); (case side2 => exact HC0_2.out); (case side3 => exact cP (Kd.C_below HR2.out HB.out)); (case side4 => exact HC2.out); (case side5 => exact cP (Kd.C_below HR3.out HB.out)); (case side6 => exact HC3.out); rintro e w40 ⟨rfl, hb⟩; refine ⟨_, rfl, ?_⟩; replace BK703 := kB gb703 hb; replace HB := bS w hb; (try clear hb)) | ((with_reducible refine gate_callee (f := 102) rfl ?_); refine goesLM (some 29) rfl rfl Tryd.func102 (by kernel_rfl) rfl #[.slice A4 l4.length c4] rfl (by rfl) ?_; (with_reducible refine (snowlineref01_Rising.calls k _ _ l4 true _ ?side1 ?side2 A8.out).mono ?_); (case side1 => exact cP (Kd.C_below HR4.out HB.out)); (case side2 => exact HC4.out); rintro e w' ⟨rfl, ⟨nd, rfl⟩⟩; refine ⟨_, rfl, ?_⟩; obtain ⟨hcz41_0, hcz41_1, hcz41_2, hfz41_0, hfz41_1, hfz41_2⟩ := cz3 BK703) | ((with_reducible refine gate_callee (f := 100) rfl ?_); refine goesLM (some 36) rfl rfl Tryd.func100 (by kernel_rfl) rfl #[.agg #[.int .i64 a0_0, .int .i64 a0_1, .slice A0_2 l0_2.length c0_2], .int .i64 a1, .slice A2 l2.length c2, .slice A3 l3.length c3] rfl (by rfl) ?_; (with_reducible refine (snowlineref01_history.calls k a0_0 a0_1 _ _ l0_2 a1 _ _ l2 _ _ l3 false _ ?side1 ?side2 ?side3 ?side4 ?side5 ?side6 A10.out).mono ?_); (case side1 => exact (Kd.C_below HR0_2.out (bw w))); (case side2 => exact HC0_2.out); (case side3 => exact (Kd.C_below HR2.out (bw w))); (case side4 => exact HC2.out); (case side5 => exact (Kd.C_below HR3.out (bw w))); (case side6 => exact HC3.out); rintro e w42 ⟨rfl, hb⟩; refine ⟨_, rfl, ?_⟩; replace BK703 := kB gb703 hb; replace HB := bS w hb; (try clear hb)))
    go_ret3
    exact ⟨_, by first | rfl | (simp [errW_none, errW_some] <;> rfl) | (simp [*, errW_none, errW_some] <;> rfl), by first | exact Kd.R_nil _ _ _ _ _ | exact Kd.N_nil _ _ _ _ _ | exact Kd.V_nil _ _ _ _ _ | exact Kd.Q_nil _ _ _ _ _ | exact Kd.S_nil _ _ _ _ _, bw w⟩
  ·
   replace c9 := Bool.eq_false_iff.mpr c9
   subst c9
   rw [if_neg (show ¬ (false = true) by decide)] at H
   simp only [Option.some.injEq, Prod.mk.injEq] at H
   obtain ⟨rfl, rfl, rfl⟩ := H
   go_enter Tryd.func36, Tryd.ntmps36
   go_wp2_with (first | ((with_reducible refine gate_dst (N := 5) rfl ?_); refine bxE 5 24 #[.int .i64 a0_0, .int .i64 a0_1, .slice A0_2 l0_2.length c0_2] (by rfl) (by rfl) (by first | (go_simp; done) | (go_simp; rfl)) ?_; intro gb703 hg w43 hbox hb; have BK703 := Bk.mk (hbox); have GE703 := eB w hg; replace HB := bS w hb; clear hb hbox hg; obtain ⟨hcz44_0, hcz44_1, hcz44_2, hfz44_0, hfz44_1, hfz44_2⟩ := cz3 BK703) | ((with_reducible refine gate_callee (f := 99) rfl ?_); refine goesLM (some 24) rfl rfl Tryd.func99 (by kernel_rfl) rfl #[.agg #[.int .i64 a0_0, .int .i64 a0_1, .slice A0_2 l0_2.length c0_2], .int .i64 a1, .slice A2 l2.length c2, .slice A3 l3.length c3] rfl (by rfl) ?_; (with_reducible refine (snowlineref01_given.calls k a0_0 a0_1 _ _ l0_2 a1 _ _ l2 _ _ l3 t704 _ ?side1 ?side2 ?side3 ?side4 ?side5 ?side6 A6.out).mono ?_); (case side1 => exact cP (Kd.C_below HR0_2.out HB.out)); (case side2 => exact HC0_2.out); (case side3 => exact cP (Kd.C_below HR2.out HB.out)); (case side4 => exact HC2.out); (case side5 => exact cP (Kd.C_below HR3.out HB.out)); (case side6 => exact HC3.out); rintro e w45 ⟨rfl, hb⟩; refine ⟨_, rfl, ?_⟩; replace BK703 := kB gb703 hb; replace HB := bS w hb; (try clear hb)) | ((with_reducible refine gate_callee (f := 102) rfl ?_); refine goesLM (some 29) rfl rfl Tryd.func102 (by kernel_rfl) rfl #[.slice A4 l4.length c4] rfl (by rfl) ?_; (with_reducible refine (snowlineref01_Rising.calls k _ _ l4 false _ ?side1 ?side2 A8.out).mono ?_); (case side1 => exact cP (Kd.C_below HR4.out HB.out)); (case side2 => exact HC4.out); rintro e w' ⟨rfl, ⟨nd, rfl⟩⟩; refine ⟨_, rfl, ?_⟩))
   go_ret3
   exact ⟨_, by first | rfl | (simp [errW_none, errW_some] <;> rfl) | (simp [*, errW_none, errW_some] <;> rfl), by first | exact Kd.R_nil _ _ _ _ _ | exact Kd.N_nil _ _ _ _ _ | exact Kd.V_nil _ _ _ _ _ | exact Kd.Q_nil _ _ _ _ _ | exact Kd.S_nil _ _ _ _ _, bw w⟩
 ·
  rw [if_neg c7] at H
  have c7b0 : (t704 == 0) = false := beq_eq_false_iff_ne.mpr c7
  have c7b1 : (t704 != 0) = true := bne_iff_ne.mpr c7
  simp only [Option.some.injEq, Prod.mk.injEq] at H
  obtain ⟨rfl, rfl, rfl⟩ := H
  go_enter Tryd.func36, Tryd.ntmps36
  go_wp2_with (first | ((with_reducible refine gate_dst (N := 5) rfl ?_); refine bxE 5 24 #[.int .i64 a0_0, .int .i64 a0_1, .slice A0_2 l0_2.length c0_2] (by rfl) (by rfl) (by first | (go_simp; done) | (go_simp; rfl)) ?_; intro gb703 hg w46 hbox hb; have BK703 := Bk.mk (hbox); have GE703 := eB w hg; replace HB := bS w hb; clear hb hbox hg; obtain ⟨hcz47_0, hcz47_1, hcz47_2, hfz47_0, hfz47_1, hfz47_2⟩ := cz3 BK703) | ((with_reducible refine gate_callee (f := 99) rfl ?_); refine goesLM (some 24) rfl rfl Tryd.func99 (by kernel_rfl) rfl #[.agg #[.int .i64 a0_0, .int .i64 a0_1, .slice A0_2 l0_2.length c0_2], .int .i64 a1, .slice A2 l2.length c2, .slice A3 l3.length c3] rfl (by rfl) ?_; (with_reducible refine (snowlineref01_given.calls k a0_0 a0_1 _ _ l0_2 a1 _ _ l2 _ _ l3 t704 _ ?side1 ?side2 ?side3 ?side4 ?side5 ?side6 A6.out).mono ?_); (case side1 => exact cP (Kd.C_below HR0_2.out HB.out)); (case side2 => exact HC0_2.out); (case side3 => exact cP (Kd.C_below HR2.out HB.out)); (case side4 => exact HC2.out); (case side5 => exact cP (Kd.C_below HR3.out HB.out)); (case side6 => exact HC3.out); rintro e w48 ⟨rfl, hb⟩; refine ⟨_, rfl, ?_⟩; replace BK703 := kB gb703 hb; replace HB := bS w hb; (try clear hb)))
  go_ret3
  exact ⟨_, by first | rfl | (simp [errW_none, errW_some] <;> rfl) | (simp [*, errW_none, errW_some] <;> rfl), by first | exact Kd.R_nil _ _ _ _ _ | exact Kd.N_nil _ _ _ _ _ | exact Kd.V_nil _ _ _ _ _ | exact Kd.Q_nil _ _ _ _ _ | exact Kd.S_nil _ _ _ _ _, bw w⟩
def slices_Equal_int_int.l0 : Nat → List Int → List Int → Int → Int → Option (Bool)
 | 0, _, _, _, _ => none
 | k + 1, x0, x1, x12, x13 => if x13 < x12 then (if 0 ≤ x13 then (if x13 < (x0.length : Int) then (if x13 < (x1.length : Int) then (if (rd x0 x13) = (rd x1 x13) then (slices_Equal_int_int.l0 k x0 x1 x12 (wrap64 (x13 + 1))) else (some false)) else (none)) else (none)) else (none)) else (some true)
def slices_Equal_int_int.f (k : Nat) (l0 : List Int) (l1 : List Int) : Option (Bool) := if (l0.length : Int) = (l1.length : Int) then (slices_Equal_int_int.l0 k l0 l1 (l0.length : Int) 0) else (some false)
theorem slices_Equal_int_int.mono_l : ∀ k, (∀ y0 y1 y2 y3, LeO (slices_Equal_int_int.l0 k y0 y1 y2 y3) (slices_Equal_int_int.l0 (k + 1) y0 y1 y2 y3))
 | 0 => fun _ _ _ _ r h => by simp [slices_Equal_int_int.l0] at h
 | k + 1 => by
  have ih0 := slices_Equal_int_int.mono_l k
  ·
   intro y0 y1 y2 y3
   unfold slices_Equal_int_int.l0
   repeat' first
   | (with_reducible exact ih0 _ _ _ _)
   | (with_reducible exact LeO.refl _)
   | (with_reducible exact LeO.none _)
   | (with_reducible refine LeO.ite ?_ ?_)
   | (with_reducible refine LeO.bind ?_ (fun _ => ?_))
   | exact ih0 _ _ _ _
   | exact LeO.none _
   | refine LeO.ite ?_ ?_
   | refine LeO.bind ?_ (fun _ => ?_)
theorem slices_Equal_int_int.mono : ∀ a0 a1 k, LeO (slices_Equal_int_int.f k a0 a1) (slices_Equal_int_int.f (k + 1) a0 a1) := by
 intro a0 a1 k
 have ih0 := slices_Equal_int_int.mono_l k
 unfold slices_Equal_int_int.f
 repeat' first
   | (with_reducible exact ih0 _ _ _ _)
   | (with_reducible exact LeO.refl _)
   | (with_reducible exact LeO.none _)
   | (with_reducible refine LeO.ite ?_ ?_)
   | (with_reducible refine LeO.bind ?_ (fun _ => ?_))
   | exact ih0 _ _ _ _
   | exact LeO.none _
   | refine LeO.ite ?_ ?_
   | refine LeO.bind ?_ (fun _ => ?_)
set_option maxHeartbeats 8000000 in
set_option maxRecDepth 100000 in
theorem slices_Equal_int_int.calls (k : Nat) (A0 : Option Addr) (c0 : Nat) (l0 : List Int) (A1 : Option Addr) (c1 : Nat) (l1 : List Int) (r : Bool) (w : World) (hr0 : Kd.C (Kd.int .i64) w A0 l0.length l0) (hc0 : l0.length ≤ c0) (hr1 : Kd.C (Kd.int .i64) w A1 l1.length l1) (hc1 : l1.length ≤ c1) (h : slices_Equal_int_int.f k l0 l1 = some r) :
  Calls Tryd.prog 37 #[.slice A0 l0.length c0, .slice A1 l1.length c1] w fun e w' => e = .returned (.bool r) ∧ Drawn0 w w' := by
 have HR0 := Aside0.mk (hr0)
 have HC0 := Aside0.mk (hc0)
 clear hr0 hc0
 have HR1 := Aside0.mk (hr1)
 have HC1 := Aside0.mk (hc1)
 clear hr1 hc1
 have H : (if (l0.length : Int) = (l1.length : Int) then (slices_Equal_int_int.l0 k l0 l1 (l0.length : Int) 0) else (some false)) = some r := h
 clear h
 by_cases c3 : (l0.length : Int) = (l1.length : Int)
 ·
  rw [if_pos c3] at H
  have c3b0 : ((l0.length : Int) == (l1.length : Int)) = true := beq_iff_eq.mpr c3
  have c3b1 : ((l0.length : Int) != (l1.length : Int)) = false := bne_eq_false_iff_eq.mpr c3
  have c3b2 : (l0.length == l1.length) = true := by first | simpa using c3 | (simp at c3 ⊢; omega)
  clear c3
  have H' := Aside0.mk H
  clear H
  go_enter Tryd.func37, Tryd.ntmps37
  go_wp2
  repeat (go_quiet (fail); try go_wp2)
  go_loopg [13] k (fun kq v13 w' => ∃ (x13_1 : Int), v13 = .int .i64 x13_1 ∧ Aside0 (slices_Equal_int_int.l0 kq l0 l1 (l0.length : Int) x13_1 = some r) ∧ Aside0 (kq ≤ k) ∧ Drawn0 w w')
  case atStart => exact ⟨(0), (by first | rfl | (simp; done) | (simp [*]; done)), H', ⟨Nat.le_refl _⟩, by repeat (first | exact Drawn0.refl _ | apply Drawn0.step)⟩
  case round =>
   clear H'
   try clear c1
   try clear p2
   try clear c3
   try clear c3b0
   try clear c3b1
   try clear c3b2
   obtain ⟨x13_1, rfl, HA, HK1, ⟨m1, rfl⟩⟩ := hrel
   cases gk with
   | zero => exact absurd HA.out (by simp [slices_Equal_int_int.l0])
   | succ k1 =>
    have H := HA.out
    clear HA
    simp only [slices_Equal_int_int.l0] at H
    by_cases c4 : x13_1 < (l0.length : Int)
    ·
     rw [if_pos c4] at H
     have c4b0 : decide (x13_1 < (l0.length : Int)) = true := decide_eq_true c4
     clear c4
     by_cases c5 : 0 ≤ x13_1
     ·
      rw [if_pos c5] at H
      have c5b0 : decide (0 ≤ x13_1) = true := decide_eq_true c5
      clear c5
      by_cases c6 : x13_1 < (l0.length : Int)
      ·
       rw [if_pos c6] at H
       have c6b0 : decide (x13_1 < (l0.length : Int)) = true := decide_eq_true c6
       clear c6
       by_cases c7 : x13_1 < (l1.length : Int)
       ·
        rw [if_pos c7] at H
        have c7b0 : decide (x13_1 < (l1.length : Int)) = true := decide_eq_true c7
        clear c7
        by_cases c8 : (rd l0 x13_1) = (rd l1 x13_1)
        ·
         rw [if_pos c8] at H
         have c8b0 : ((rd l0 x13_1) == (rd l1 x13_1)) = true := beq_iff_eq.mpr c8
         have c8b1 : ((rd l0 x13_1) != (rd l1 x13_1)) = false := bne_eq_false_iff_eq.mpr c8
         clear c8
         have H' := Aside0.mk H
         clear H
         have p306 : 0 ≤ (x13_1 : Int) := of_decide_eq_true (by first | (with_reducible assumption) | assumption)
         have q306 : x13_1 < (l0.length : Int) := of_decide_eq_true (by first | (with_reducible assumption) | assumption)
         obtain ⟨ad306, e306, hx306_0⟩ := Kd.at_int HR0.out x13_1 p306 q306
         cases e306
         replace p306 := eq_true p306
         replace q306 := eq_true q306
         have p307 : 0 ≤ (x13_1 : Int) := of_decide_eq_true (by first | (with_reducible assumption) | assumption)
         have q307 : x13_1 < (l1.length : Int) := of_decide_eq_true (by first | (with_reducible assumption) | assumption)
         obtain ⟨ad307, e307, hx307_0⟩ := Kd.at_int HR1.out x13_1 p307 q307
         cases e307
         replace p307 := eq_true p307
         replace q307 := eq_true q307
         go_wp2
         repeat (go_quiet (fail); try go_wp2)
         go_roundg k1
         case measure => have := HK1.out; omega
         case rel => exact ⟨(wrap64 (x13_1 + 1)), (by first | rfl | (simp; done) | (simp [*]; done)), H', ⟨by have := HK1.out; omega⟩, by repeat (first | exact Drawn0.refl _ | apply Drawn0.step)⟩
        ·
         rw [if_neg c8] at H
         have c8b0 : ((rd l0 x13_1) == (rd l1 x13_1)) = false := beq_eq_false_iff_ne.mpr c8
         have c8b1 : ((rd l0 x13_1) != (rd l1 x13_1)) = true := bne_iff_ne.mpr c8
         obtain rfl := Option.some.inj H
         have p306 : 0 ≤ (x13_1 : Int) := of_decide_eq_true (by first | (with_reducible assumption) | assumption)
         have q306 : x13_1 < (l0.length : Int) := of_decide_eq_true (by first | (with_reducible assumption) | assumption)
         obtain ⟨ad306, e306, hx306_0⟩ := Kd.at_int HR0.out x13_1 p306 q306
         cases e306
         replace p306 := eq_true p306
         replace q306 := eq_true q306
         have p307 : 0 ≤ (x13_1 : Int) := of_decide_eq_true (by first | (with_reducible assumption) | assumption)
         have q307 : x13_1 < (l1.length : Int) := of_decide_eq_true (by first | (with_reducible assumption) | assumption)
         obtain ⟨ad307, e307, hx307_0⟩ := Kd.at_int HR1.out x13_1 p307 q307
         cases e307
         replace p307 := eq_true p307
         replace q307 := eq_true q307
         go_wp2
         repeat (go_quiet (fail); try go_wp2)
         go_ret
         exact ⟨by first | rfl | (simp; done) | (simp [*]; done), by repeat (first | exact Drawn0.refl _ | apply Drawn0.step)⟩
       ·
        rw [if_neg c7] at H
        exact absurd H (by simp)
      ·
       rw [if_neg c6] at H
       exact absurd H (by simp)
     ·
      rw [if_neg c5] at H
      exact absurd H (by simp)
    ·
     rw [if_neg c4] at H
     have c4b0 : decide (x13_1 < (l0.length : Int)) = false := decide_eq_false c4
     clear c4
     obtain rfl := Option.some.inj H
     go_wp2
     repeat (go_quiet (fail); try go_wp2)
     go_ret
     exact ⟨by first | rfl | (simp; done) | (simp [*]; done), by repeat (first | exact Drawn0.refl _ | apply Drawn0.step)⟩
 ·
  rw [if_neg c3] at H
  have c3b0 : ((l0.length : Int) == (l1.length : Int)) = false := beq_eq_false_iff_ne.mpr c3
  have c3b1 : ((l0.length : Int) != (l1.length : Int)) = true := bne_iff_ne.mpr c3
  have c3b2 : (l0.length == l1.length) = false := by first | simpa using c3 | (simp at c3 ⊢; omega)
  obtain rfl := Option.some.inj H
  go_enter Tryd.func37, Tryd.ntmps37
  go_wp2
  repeat (go_quiet (fail); try go_wp2)
  go_ret
  exact ⟨by first | rfl | (simp; done) | (simp [*]; done), by repeat (first | exact Drawn0.refl _ | apply Drawn0.step)⟩
end Go.Proofs.YtapijkdgkajoeaaDoor.PF
end
section
namespace Go.Proofs.YtapijkdgkajoeaaDoor.PF
open Go.RowKit Go.Proofs.YtapijkdgkajoeaaDoorW.PrintWords Go.Proofs.YtapijkdgkajoeaaDoorW.PrintMore
theorem searchE {ρ : Type} (n : Nat) (L : Nat → Int → Option ρ) (bad : Nat → Prop) (hit e : ρ)
    (h1 : ∀ (i : Nat), i < n → bad i → (∀ a, a < i → ¬ bad a) → Ev (fun k => L k (i : Int)) hit)
    (h2 : ∀ (i : Nat), i < n → ¬ bad i → (∀ a, a < i → ¬ bad a) → ∀ r, Ev (fun k => L k ((i : Int) + 1)) r → Ev (fun k => L k (i : Int)) r)
    (h3 : (∀ a, a < n → ¬ bad a) → Ev (fun k => L k (n : Int)) e) :
    (¬ (∀ a, a < n → ¬ bad a) ∧ Ev (fun k => L k 0) hit) ∨ (∀ a, a < n → ¬ bad a) ∧ Ev (fun k => L k 0) e := by
  have key : ∀ d (i : Nat), i ≤ n → n - i = d → (∀ a, a < i → ¬ bad a) → (¬ (∀ a, a < n → ¬ bad a) ∧ Ev (fun k => L k (i : Int)) hit) ∨ (∀ a, a < n → ¬ bad a) ∧ Ev (fun k => L k (i : Int)) e := by
    intro d
    induction d with
    | zero =>
      intro i hi hd ho
      obtain rfl : i = n := by omega
      exact .inr ⟨ho, h3 ho⟩
    | succ d ih =>
      intro i hi hd ho
      have hlt : i < n := by omega
      by_cases hb : bad i
      · exact .inl ⟨fun h => h i hlt hb, h1 i hlt hb ho⟩
      · have ho' : ∀ a, a < i + 1 → ¬ bad a := fun a ha => by
          rcases Nat.lt_or_ge a i with h | h
          · exact ho a h
          · obtain rfl : a = i := by omega
            exact hb
        have hc : ((i + 1 : Nat) : Int) = (i : Int) + 1 := by omega
        rcases ih (i + 1) (by omega) (by omega) ho' with ⟨hall, hev⟩ | ⟨hall, hev⟩
        · rw [hc] at hev
          exact .inl ⟨hall, h2 i hlt hb ho _ hev⟩
        · rw [hc] at hev
          exact .inr ⟨hall, h2 i hlt hb ho _ hev⟩
  have := key n 0 (Nat.zero_le _) (by omega) (fun a ha => absurd ha (by omega))
  simpa using this
theorem foldE {σ ρ : Type} (n : Nat) (L : Nat → Int → σ → Option ρ) (f : Nat → σ → σ) (Inv : Nat → σ → Prop) (fin : σ → ρ) (hI : ∀ (i : Nat) s, i < n → Inv i s → Inv (i + 1) (f i s))
    (h1 : ∀ (i : Nat) s, i < n → Inv i s → ∀ r, Ev (fun k => L k ((i : Int) + 1) (f i s)) r → Ev (fun k => L k (i : Int) s) r) (h2 : ∀ s, Inv n s → Ev (fun k => L k (n : Int) s) (fin s)) (s : σ) (h0 : Inv 0 s) :
    Ev (fun k => L k 0 s) (fin ((List.range n).foldl (fun s i => f i s) s)) := by
  have key : ∀ d (i : Nat), i ≤ n → n - i = d → ∀ s, Inv i s → Ev (fun k => L k (i : Int) s) (fin ((List.range' i (n - i)).foldl (fun s i => f i s) s)) := by
    intro d
    induction d with
    | zero =>
      intro i hi hd s hs
      obtain rfl : i = n := by omega
      have : i - i = 0 := by omega
      rw [this]
      exact h2 s hs
    | succ d ih =>
      intro i hi hd s hs
      have hlt : i < n := by omega
      have hc : ((i + 1 : Nat) : Int) = (i : Int) + 1 := by omega
      have hev := ih (i + 1) (by omega) (by omega) (f i s) (hI i s hlt hs)
      rw [hc] at hev
      have : n - i = (n - (i + 1)) + 1 := by omega
      rw [this, List.range'_succ, List.foldl_cons]
      exact h1 i s hlt hs _ hev
  have := key n 0 (Nat.zero_le _) (by omega) s h0
  simpa [List.range_eq_range'] using this
abbrev atI (l : List Int) (i : Nat) : Int := l.getD i 0
theorem rd_atI (l : List Int) (i : Nat) : rd l (i : Int) = atI l i := by simp [rd]
theorem i_pred {i : Nat} (h : 0 < i) (hi : i ≤ 1000) : wrap64 ((i : Int) - 1) = ((i - 1 : Nat) : Int) := by rw [w64 (by omega) (by omega)]; omega
def Ris (l : List Int) : Prop := ∀ i, i < l.length → DayOk (atI l i) ∧ (0 < i → atI l (i - 1) < atI l i)
theorem course_rising_eq (l : List Int) (hn : l.length ≤ 100) : (¬ (Ris l ∧ l.length ≤ 64) ∧ Ev (fun k => course_rising.f k l) false) ∨ ((Ris l ∧ l.length ≤ 64) ∧ Ev (fun k => course_rising.f k l) true) := by
  have step : ∀ k (i : Nat), i < l.length → course_rising.l0 (k + 1) l l (l.length : Int) (i : Int) = if DayOk (atI l i) ∧ (0 < i → atI l (i - 1) < atI l i) then course_rising.l0 k l l (l.length : Int) ((i : Int) + 1) else some false := by
    intro k i hi
    have hw : wrap64 ((i : Int) + 1) = (i : Int) + 1 := w64 (by omega) (by omega)
    simp only [course_rising.l0]
    rw [if_pos (by omega), if_pos (by omega), if_pos (by omega), rd_atI, course_day_eq, hw]
    simp only [Option.bind_some, decide_eq_true_eq]
    by_cases h : DayOk (atI l i)
    · rw [if_pos h]
      by_cases h0 : (i : Int) > 0
      · rw [if_pos h0, i_pred (by omega) (by omega), if_pos (by omega), if_pos (by omega), rd_atI]
        by_cases hk : atI l (i - 1) ≥ atI l i
        · rw [if_pos hk, if_neg (fun hh => by have := hh.2 (by omega); omega)]
        · rw [if_neg hk, if_pos ⟨h, fun _ => by omega⟩]
      · rw [if_neg h0, if_pos ⟨h, fun h1 => by omega⟩]
    · rw [if_neg h, if_neg (fun hh => h hh.1)]
  have fin : Ev (fun k => course_rising.l0 k l l (l.length : Int) (l.length : Int)) (decide ((l.length : Int) ≤ 64)) := Ev.step (fun k => by simp only [course_rising.l0]; rw [if_neg (by omega)]) (Ev.now _)
  unfold course_rising.f
  rcases searchE l.length (fun k i => course_rising.l0 k l l (l.length : Int) i) (fun i => ¬ (DayOk (atI l i) ∧ (0 < i → atI l (i - 1) < atI l i))) false (decide ((l.length : Int) ≤ 64))
    (fun i hi hb _ => Ev.step (fun k => by rw [step k i hi, if_neg hb]) (Ev.now _)) (fun i hi hb _ r hr => Ev.step (fun k => by rw [step k i hi, if_pos (Classical.not_not.1 hb)]) hr) (fun _ => fin) with ⟨hall, hev⟩ | ⟨hall, hev⟩
  · exact .inl ⟨fun h => hall (fun a ha hb => hb (h.1 a ha)), hev⟩
  · have hR : Ris l := fun a ha => Classical.not_not.1 (hall a ha)
    by_cases c : l.length ≤ 64
    · rw [decide_eq_true (show (l.length : Int) ≤ 64 by omega)] at hev
      exact .inr ⟨⟨hR, c⟩, hev⟩
    · rw [decide_eq_false (show ¬ (l.length : Int) ≤ 64 by omega)] at hev
      exact .inl ⟨fun h => c h.2, hev⟩
theorem ref_Rising_eq (l : List Int) (hn : l.length ≤ 100) : (¬ (Ris l ∧ l.length ≤ 64) ∧ Ev (fun k => snowlineref01_Rising.f k l) false) ∨ ((Ris l ∧ l.length ≤ 64) ∧ Ev (fun k => snowlineref01_Rising.f k l) true) := by
  have step : ∀ k (i : Nat), i < l.length → snowlineref01_Rising.l0 (k + 1) l (i : Int) = if DayOk (atI l i) ∧ (0 < i → atI l (i - 1) < atI l i) then snowlineref01_Rising.l0 k l ((i : Int) + 1) else some false := by
    intro k i hi
    have hw : wrap64 ((i : Int) + 1) = (i : Int) + 1 := w64 (by omega) (by omega)
    simp only [snowlineref01_Rising.l0]
    rw [if_pos (by omega), if_pos (by omega), rd_atI, ref_Day_eq, hw]
    simp only [Option.bind_some, decide_eq_true_eq]
    by_cases h : DayOk (atI l i)
    · rw [if_pos h]
      by_cases h0 : (i : Int) > 0
      · rw [if_pos h0, i_pred (by omega) (by omega), if_pos (by omega), if_pos (by omega), rd_atI]
        by_cases hk : atI l i ≤ atI l (i - 1)
        · rw [if_pos hk, if_neg (fun hh => by have := hh.2 (by omega); omega)]
        · rw [if_neg hk, if_pos ⟨h, fun _ => by omega⟩]
      · rw [if_neg h0, if_pos ⟨h, fun h1 => by omega⟩]
    · rw [if_neg h, if_neg (fun hh => h hh.1)]
  unfold snowlineref01_Rising.f
  by_cases c : (l.length : Int) > 64
  · simp only [if_pos c]
    exact .inl ⟨fun h => by have := h.2; omega, Ev.now _⟩
  · simp only [if_neg c]
    rcases searchE l.length (fun k i => snowlineref01_Rising.l0 k l i) (fun i => ¬ (DayOk (atI l i) ∧ (0 < i → atI l (i - 1) < atI l i))) false true
      (fun i hi hb _ => Ev.step (fun k => by rw [step k i hi, if_neg hb]) (Ev.now _)) (fun i hi hb _ r hr => Ev.step (fun k => by rw [step k i hi, if_pos (Classical.not_not.1 hb)]) hr)
      (fun _ => Ev.step (fun k => by simp only [snowlineref01_Rising.l0]; rw [if_neg (by omega)]) (Ev.now _)) with ⟨hall, hev⟩ | ⟨hall, hev⟩
    · exact .inl ⟨fun h => hall (fun a ha hb => hb (h.1 a ha)), hev⟩
    · exact .inr ⟨⟨fun a ha => Classical.not_not.1 (hall a ha), by omega⟩, hev⟩
def P1 (rate : Int) (l : List S26) (known : Int) (ds gs : List Int) (i : Nat) : Prop := (driftOf rate l (atI ds i) known).1 ≤ atI gs i ∧ atI gs i ≤ (driftOf rate l (atI ds i) known).2
instance (rate : Int) (l : List S26) (known : Int) (ds gs : List Int) (i : Nat) : Decidable (P1 rate l known ds gs i) := by unfold P1; infer_instance
def P2 (rate : Int) (ds gs : List Int) (i : Nat) : Prop := 0 < i → dist (atI gs (i - 1)) (atI gs i) ≤ rate * (atI ds i - atI ds (i - 1))
def Q2 (rate : Int) (ds gs : List Int) (i j : Nat) : Prop := atI gs i - atI gs j ≤ rate * dist (atI ds i) (atI ds j) ∧ atI gs j - atI gs i ≤ rate * dist (atI ds i) (atI ds j)
instance (rate : Int) (ds gs : List Int) (i j : Nat) : Decidable (Q2 rate ds gs i j) := by unfold Q2; infer_instance
def Poss (rate : Int) (l : List S26) (known : Int) (ds gs : List Int) : Prop := ∀ i, i < ds.length → P1 rate l known ds gs i ∧ P2 rate ds gs i
theorem gram_in {rate : Int} {l : List S26} {no known : Int} {ds gs : List Int} {i : Nat} (hs : OkS no rate l) (hd : DayOk (atI ds i)) (h : P1 rate l known ds gs i) : -1048576 ≤ atI gs i ∧ atI gs i ≤ 1048576 := by
  obtain ⟨⟨a, b, c, d⟩, _⟩ := course_drift_eq no rate l (atI ds i) known hs hd
  obtain ⟨e, f⟩ := h
  exact ⟨by omega, by omega⟩
theorem course_possible_eq (no rate : Int) (l : List S26) (known : Int) (ds gs : List Int) (hs : OkS no rate l) (hr : Ris ds) (hn : ds.length ≤ 64) (hg : ds.length = gs.length) :
    (¬ Poss rate l known ds gs ∧ Ev (fun k => course_possible.f k no rate l known ds gs) false) ∨ (Poss rate l known ds gs ∧ Ev (fun k => course_possible.f k no rate l known ds gs) true) := by
  -- behind the drift of a day
  have one : ∀ (i : Nat), i < ds.length → ∀ r, Ev (fun k => course_possible.j1 k known ds gs (i : Int) (atI ds i) ds (ds.length : Int) (i : Int) (decide (¬ P1 rate l known ds gs i)) no rate l) r → Ev (fun k => course_possible.l0 k known ds gs ds (ds.length : Int) (i : Int) no rate l) r := by
    intro i hi r h
    refine Ev.step (f := fun k => (course_drift.f k no rate l (atI ds i) known).bind fun b => if atI gs i < b.1 then course_possible.j1 k known ds gs (i : Int) (atI ds i) ds (ds.length : Int) (i : Int) true no rate l else course_possible.j1 k known ds gs (i : Int) (atI ds i) ds (ds.length : Int) (i : Int) (decide (atI gs i > b.2)) no rate l) (fun k => ?_) ?_
    · simp only [course_possible.l0]
      rw [if_pos (by omega), if_pos (by omega), if_pos (by omega), rd_atI]
      congr 1
      funext b
      rw [if_pos (by omega), rd_atI]
    · refine Ev.bind (course_drift_eq no rate l (atI ds i) known hs (hr i hi).1).2 ?_
      by_cases a : atI gs i < (driftOf rate l (atI ds i) known).1
      · rw [decide_eq_true (show ¬ P1 rate l known ds gs i from fun h => by have := h.1; omega)] at h
        exact Ev.congr (fun k => if_pos a) h
      · refine Ev.congr (fun k => if_neg a) ?_
        have e : decide (¬ P1 rate l known ds gs i) = decide (atI gs i > (driftOf rate l (atI ds i) known).2) := by
          rw [decide_eq_decide]
          unfold P1
          omega
        rw [e] at h
        exact h
  unfold course_possible.f
  rcases searchE ds.length (fun k i => course_possible.l0 k known ds gs ds (ds.length : Int) i no rate l) (fun i => ¬ (P1 rate l known ds gs i ∧ P2 rate ds gs i)) false true
    (fun i hi hb ho => one i hi _ (by
      by_cases a : P1 rate l known ds gs i
      · rw [decide_eq_false (fun h => h a)]
        by_cases h0 : 0 < i
        · have hp := ho (i - 1) (by omega)
          obtain ⟨g0, g1⟩ := gram_in hs (hr i hi).1 a
          obtain ⟨f0, f1⟩ := gram_in hs (hr (i - 1) (by omega)).1 (Classical.not_not.1 hp).1
          have d0 := (hr i hi).2 h0
          have d1 := (hr i hi).1
          have d2 := (hr (i - 1) (by omega)).1
          have m := mulb hs.2.1 hs.2.2.1 (show 0 ≤ atI ds i - atI ds (i - 1) by omega) (by have := d1.2; have := d2.1; omega)
          refine Ev.step (fun k => ?_) (Ev.now false)
          simp only [course_possible.j1]
          rw [if_neg (by decide), if_pos (by omega), i_pred h0 (by omega), if_pos (by omega), if_pos (by omega), if_pos (by omega), if_pos (by omega), if_pos (by omega), rd_atI, rd_atI, rd_atI, w64 (x := atI ds i - atI ds (i - 1)) (by have := d1.2; have := d2.1; omega) (by have := d1.2; have := d2.1; omega), w64 (x := rate * (atI ds i - atI ds (i - 1))) (by omega) (by omega)]
          simp only [course_within.f]
          rw [course_apart_eq (by omega) (by omega)]
          simp only [Option.bind_some, decide_eq_true_eq]
          rw [if_neg (fun h => hb ⟨a, fun _ => h⟩)]
        · exact absurd ⟨a, fun h => absurd h h0⟩ hb
      · rw [decide_eq_true a]
        exact Ev.step (fun k => by simp only [course_possible.j1]; rfl) (Ev.now false)))
    (fun i hi hb ho r h => one i hi _ (by
      obtain ⟨a, b⟩ := Classical.not_not.1 hb
      have hw : wrap64 ((i : Int) + 1) = (i : Int) + 1 := w64 (by omega) (by omega)
      rw [decide_eq_false (fun h => h a)]
      refine Ev.step (fun k => ?_) h
      simp only [course_possible.j1]
      rw [if_neg (by decide), hw]
      by_cases h0 : 0 < i
      · have hp := ho (i - 1) (by omega)
        obtain ⟨g0, g1⟩ := gram_in hs (hr i hi).1 a
        obtain ⟨f0, f1⟩ := gram_in hs (hr (i - 1) (by omega)).1 (Classical.not_not.1 hp).1
        have d0 := (hr i hi).2 h0
        have d1 := (hr i hi).1
        have d2 := (hr (i - 1) (by omega)).1
        have m := mulb hs.2.1 hs.2.2.1 (show 0 ≤ atI ds i - atI ds (i - 1) by omega) (by have := d1.2; have := d2.1; omega)
        rw [if_pos (by omega), i_pred h0 (by omega), if_pos (by omega), if_pos (by omega), if_pos (by omega), if_pos (by omega), if_pos (by omega), rd_atI, rd_atI, rd_atI, w64 (x := atI ds i - atI ds (i - 1)) (by have := d1.2; have := d2.1; omega) (by have := d1.2; have := d2.1; omega), w64 (x := rate * (atI ds i - atI ds (i - 1))) (by omega) (by omega)]
        simp only [course_within.f]
        rw [course_apart_eq (by omega) (by omega)]
        simp only [Option.bind_some, decide_eq_true_eq]
        rw [if_pos (b h0)]
      · rw [if_neg (by omega)]))
    (fun _ => Ev.step (fun k => by simp only [course_possible.l0]; rw [if_neg (by omega)]) (Ev.now true)) with ⟨hall, hev⟩ | ⟨hall, hev⟩
  · exact .inl ⟨fun h => hall (fun a ha hb => hb (h a ha)), hev⟩
  · exact .inr ⟨fun a ha => Classical.not_not.1 (hall a ha), hev⟩
theorem poss_iff {rate : Int} {l : List S26} {known : Int} {ds gs : List Int} (hr : Ris ds) : Poss rate l known ds gs ↔ ∀ i, i < ds.length → P1 rate l known ds gs i ∧ ∀ j, j < i → Q2 rate ds gs i j := by
  have inc : ∀ d i j, i < ds.length → i - j = d → j < i → atI ds j < atI ds i := by
    intro d
    induction d with
    | zero => intro i j _ _ _; omega
    | succ d ih =>
      intro i j hi hd hj
      have h1 := (hr i hi).2 (by omega)
      rcases Nat.lt_or_ge j (i - 1) with h | h
      · have := ih (i - 1) j (by omega) (by omega) h
        omega
      · obtain rfl : j = i - 1 := by omega
        exact h1
  constructor
  · intro h i hi
    refine ⟨(h i hi).1, ?_⟩
    have key : ∀ d i j, i < ds.length → i - j = d → j < i → atI gs i - atI gs j ≤ rate * (atI ds i - atI ds j) ∧ atI gs j - atI gs i ≤ rate * (atI ds i - atI ds j) := by
      intro d
      induction d with
      | zero => intro i j _ _ _; omega
      | succ d ih =>
        intro i j hi hd hj
        have h2 := (h i hi).2 (by omega)
        have h3 : atI gs i - atI gs (i - 1) ≤ rate * (atI ds i - atI ds (i - 1)) ∧ atI gs (i - 1) - atI gs i ≤ rate * (atI ds i - atI ds (i - 1)) := by
          generalize rate * (atI ds i - atI ds (i - 1)) = q at *
          unfold dist at h2
          split at h2 <;> omega
        rcases Nat.lt_or_ge j (i - 1) with hji | hji
        · have h4 := ih (i - 1) j (by omega) (by omega) hji
          have e : rate * (atI ds i - atI ds j) = rate * (atI ds i - atI ds (i - 1)) + rate * (atI ds (i - 1) - atI ds j) := by
            rw [← Int.mul_add]
            congr 1
            omega
          rw [e]
          omega
        · obtain rfl : j = i - 1 := by omega
          exact h3
    intro j hj
    have h5 := key _ i j hi rfl hj
    have h6 := inc _ i j hi rfl hj
    unfold Q2
    have e : dist (atI ds i) (atI ds j) = atI ds i - atI ds j := by unfold dist; rw [if_neg (by omega)]
    rw [e]
    exact h5
  · intro h i hi
    refine ⟨(h i hi).1, fun h0 => ?_⟩
    have h5 := (h i hi).2 (i - 1) (by omega)
    have h6 := inc _ i (i - 1) hi rfl (by omega)
    unfold Q2 at h5
    have e : dist (atI ds i) (atI ds (i - 1)) = atI ds i - atI ds (i - 1) := by unfold dist; rw [if_neg (by omega)]
    rw [e] at h5
    generalize rate * (atI ds i - atI ds (i - 1)) = q at *
    unfold dist
    split <;> omega
theorem ref_history_eq (no rate : Int) (l : List S26) (known : Int) (ds gs : List Int) (hs : OkS no rate l) (hr : Ris ds) (hn : ds.length ≤ 64) (hg : ds.length = gs.length) :
    (¬ Poss rate l known ds gs ∧ Ev (fun k => snowlineref01_history.f k no rate l known ds gs) false) ∨ (Poss rate l known ds gs ∧ Ev (fun k => snowlineref01_history.f k no rate l known ds gs) true) := by
  rw [poss_iff hr]
  have one : ∀ (i : Nat), i < ds.length → ∀ r, Ev (fun k => snowlineref01_history.j1 k known ds gs (i : Int) (decide (¬ P1 rate l known ds gs i)) no rate l) r → Ev (fun k => snowlineref01_history.l0 k known ds gs (i : Int) no rate l) r := by
    intro i hi r h
    refine Ev.step (f := fun k => (snowlineref01_drift.f k no rate l (atI ds i) known).bind fun b => if atI gs i < b.1 then snowlineref01_history.j1 k known ds gs (i : Int) true no rate l else snowlineref01_history.j1 k known ds gs (i : Int) (decide (atI gs i > b.2)) no rate l) (fun k => ?_) ?_
    · simp only [snowlineref01_history.l0]
      rw [if_pos (by omega), if_pos (by omega), rd_atI]
      congr 1
      funext b
      rw [if_pos (by omega), rd_atI]
    · refine Ev.bind (ref_drift_eq no rate l (atI ds i) known hs (hr i hi).1) ?_
      by_cases a : atI gs i < (driftOf rate l (atI ds i) known).1
      · rw [decide_eq_true (show ¬ P1 rate l known ds gs i from fun h => by have := h.1; omega)] at h
        exact Ev.congr (fun k => if_pos a) h
      · refine Ev.congr (fun k => if_neg a) ?_
        have e : decide (¬ P1 rate l known ds gs i) = decide (atI gs i > (driftOf rate l (atI ds i) known).2) := by
          rw [decide_eq_decide]
          unfold P1
          omega
        rw [e] at h
        exact h
  have step : ∀ (i j : Nat) k, i < ds.length → j < i → (-1048576 ≤ atI gs i ∧ atI gs i ≤ 1048576) → (-1048576 ≤ atI gs j ∧ atI gs j ≤ 1048576) → snowlineref01_history.l1 (k + 1) known ds gs (i : Int) (j : Int) no rate l = if Q2 rate ds gs i j then snowlineref01_history.l1 k known ds gs (i : Int) ((j : Int) + 1) no rate l else some false := by
    intro i j k hi hj gi gj
    have hw : wrap64 ((j : Int) + 1) = (j : Int) + 1 := w64 (by omega) (by omega)
    have d1 := (hr i hi).1
    have d2 := (hr j (by omega)).1
    have d := dist_range d1 d2
    have m := mulb hs.2.1 hs.2.2.1 d.1 d.2
    simp only [snowlineref01_history.l1]
    rw [if_pos (by omega), if_pos (by omega), if_pos (by omega), if_pos (by omega), if_pos (by omega), rd_atI, rd_atI, rd_atI, rd_atI, ref_far_eq (day_b d1) (day_b d2)]
    simp only [Option.bind_some]
    rw [if_pos (by omega), if_pos (by omega), w64 (x := rate * dist (atI ds i) (atI ds j)) (by omega) (by omega), w64 (x := atI gs i - atI gs j) (by omega) (by omega), w64 (x := atI gs j - atI gs i) (by omega) (by omega), hw]
    by_cases a : atI gs i - atI gs j > rate * dist (atI ds i) (atI ds j)
    · rw [if_pos a, if_neg (show ¬ Q2 rate ds gs i j from fun h => by have h1 := h.1; omega)]
    · rw [if_neg a]
      by_cases b : atI gs j - atI gs i > rate * dist (atI ds i) (atI ds j)
      · rw [if_pos b, if_neg (show ¬ Q2 rate ds gs i j from fun h => by have h1 := h.2; omega)]
      · rw [if_neg b, if_pos (show Q2 rate ds gs i j from ⟨by omega, by omega⟩)]
  unfold snowlineref01_history.f
  rcases searchE ds.length (fun k i => snowlineref01_history.l0 k known ds gs i no rate l) (fun i => ¬ (P1 rate l known ds gs i ∧ ∀ j, j < i → Q2 rate ds gs i j)) false true
    (fun i hi hb ho => one i hi _ (by
      by_cases a : P1 rate l known ds gs i
      · rw [decide_eq_false (fun h => h a)]
        refine Ev.step (f := fun k => snowlineref01_history.l1 k known ds gs (i : Int) 0 no rate l) (fun k => by simp only [snowlineref01_history.j1]; rw [if_neg (by decide)]) ?_
        rcases searchE i (fun k j => snowlineref01_history.l1 k known ds gs (i : Int) j no rate l) (fun j => ¬ Q2 rate ds gs i j) false true
          (fun j hj hq _ => Ev.step (fun k => by rw [step i j k hi hj (gram_in hs (hr i hi).1 a) (gram_in hs (hr j (by omega)).1 (Classical.not_not.1 (ho j hj)).1), if_neg hq]) (Ev.now false))
          (fun j hj hq _ r h => Ev.step (fun k => by rw [step i j k hi hj (gram_in hs (hr i hi).1 a) (gram_in hs (hr j (by omega)).1 (Classical.not_not.1 (ho j hj)).1), if_pos (Classical.not_not.1 hq)]) h)
          (fun hall => absurd ⟨a, fun j hj => Classical.not_not.1 (hall j hj)⟩ hb) with ⟨_, hev⟩ | ⟨hall, _⟩
        · exact hev
        · exact absurd ⟨a, fun j hj => Classical.not_not.1 (hall j hj)⟩ hb
      · rw [decide_eq_true a]
        exact Ev.step (fun k => by simp only [snowlineref01_history.j1]; rfl) (Ev.now false)))
    (fun i hi hb ho r h => one i hi _ (by
      obtain ⟨a, b⟩ := Classical.not_not.1 hb
      rw [decide_eq_false (fun h => h a)]
      refine Ev.step (f := fun k => snowlineref01_history.l1 k known ds gs (i : Int) 0 no rate l) (fun k => by simp only [snowlineref01_history.j1]; rw [if_neg (by decide)]) ?_
      rcases searchE i (fun k j => snowlineref01_history.l1 k known ds gs (i : Int) j no rate l) (fun j => ¬ Q2 rate ds gs i j) r r
        (fun j hj hq _ => absurd (b j hj) hq)
        (fun j hj hq _ r h => Ev.step (fun k => by rw [step i j k hi hj (gram_in hs (hr i hi).1 a) (gram_in hs (hr j (by omega)).1 (Classical.not_not.1 (ho j hj)).1), if_pos (Classical.not_not.1 hq)]) h)
        (fun _ => Ev.step (fun k => by
          have hw : wrap64 ((i : Int) + 1) = (i : Int) + 1 := w64 (by omega) (by omega)
          simp only [snowlineref01_history.l1]
          rw [if_neg (by omega), hw]) h) with ⟨_, hev⟩ | ⟨_, hev⟩
      · exact hev
      · exact hev))
    (fun _ => Ev.step (fun k => by simp only [snowlineref01_history.l0]; rw [if_neg (by omega)]) (Ev.now true)) with ⟨hall, hev⟩ | ⟨hall, hev⟩
  · exact .inl ⟨fun h => hall (fun a ha hb => hb (h a ha)), hev⟩
  · exact .inr ⟨fun a ha => Classical.not_not.1 (hall a ha), hev⟩
def Fit (ds gs : List Int) : Prop := ds.length = gs.length ∧ Ris ds ∧ ds.length ≤ 64
def HistIs (no rate : Int) (l : List S26) (known : Int) (ds gs : List Int) (r : Bool × Int) : Prop :=
  ∃ e, ErrS no rate l e ∧ ((askE e [known] ≠ 0 ∧ r = (false, askE e [known])) ∨ (askE e [known] = 0 ∧ ¬ Fit ds gs ∧ r = (false, 1)) ∨ (askE e [known] = 0 ∧ Fit ds gs ∧ ¬ Poss rate l known ds gs ∧ r = (false, 0)) ∨ (askE e [known] = 0 ∧ Fit ds gs ∧ Poss rate l known ds gs ∧ r = (true, 0)))
theorem HistIs.same {no rate : Int} {l : List S26} {known : Int} {ds gs : List Int} {r r' : Bool × Int} (h : HistIs no rate l known ds gs r) (h' : HistIs no rate l known ds gs r') : r = r' := by
  obtain ⟨e, he, h⟩ := h
  obtain ⟨e', he', h'⟩ := h'
  obtain rfl := he.same he'
  rcases h with ⟨a, rfl⟩ | ⟨a, b, rfl⟩ | ⟨a, b, c, rfl⟩ | ⟨a, b, c, rfl⟩ <;> rcases h' with ⟨a', rfl⟩ | ⟨a', b', rfl⟩ | ⟨a', b', c', rfl⟩ | ⟨a', b', c', rfl⟩ <;>
    first | rfl | exact absurd a' a | exact absurd a a' | exact absurd b' b | exact absurd b b' | exact absurd c' c | exact absurd c c'
theorem course_History_eq (no rate : Int) (l : List S26) (known : Int) (ds gs : List Int) (hn : l.length ≤ 100) (hd : ds.length ≤ 100) : ∃ r, HistIs no rate l known ds gs r ∧ Ev (fun k => course_History.f k no rate l known ds gs) r := by
  obtain ⟨e, he, hev⟩ := course_ask_eq no rate l [known] hn (show 1 ≤ 100 by decide)
  unfold course_History.f
  by_cases a : askE e [known] = 0
  · by_cases b : ds.length = gs.length
    · rcases course_rising_eq ds hd with ⟨c, v⟩ | ⟨⟨c, c'⟩, v⟩
      · exact ⟨_, ⟨e, he, .inr (.inl ⟨a, fun h => c h.2, rfl⟩)⟩, Ev.bind hev (Ev.congr (fun k => (if_pos a).trans (if_pos (by omega))) (Ev.bind v (Ev.congr (fun k => if_neg (by decide)) (Ev.now _))))⟩
      · have hS := errS_ok he (askE_zero a).1
        rcases course_possible_eq no rate l known ds gs hS c c' b with ⟨p, w⟩ | ⟨p, w⟩
        · exact ⟨_, ⟨e, he, .inr (.inr (.inl ⟨a, ⟨b, c, c'⟩, p, rfl⟩))⟩, Ev.bind hev (Ev.congr (fun k => (if_pos a).trans (if_pos (by omega))) (Ev.bind v (Ev.congr (fun k => if_pos rfl) (Ev.bind w (Ev.now _)))))⟩
        · exact ⟨_, ⟨e, he, .inr (.inr (.inr ⟨a, ⟨b, c, c'⟩, p, rfl⟩))⟩, Ev.bind hev (Ev.congr (fun k => (if_pos a).trans (if_pos (by omega))) (Ev.bind v (Ev.congr (fun k => if_pos rfl) (Ev.bind w (Ev.now _)))))⟩
    · exact ⟨_, ⟨e, he, .inr (.inl ⟨a, fun h => b h.1, rfl⟩)⟩, Ev.bind hev (Ev.congr (fun k => (if_pos a).trans (if_neg (by omega))) (Ev.now _))⟩
  · exact ⟨_, ⟨e, he, .inl ⟨a, rfl⟩⟩, Ev.bind hev (Ev.congr (fun k => if_neg a) (Ev.now _))⟩
theorem askE1 {e known : Int} (h : e = 0) : askE e [known] = if DayOk known then 0 else 1 := by
  unfold askE
  rw [if_pos h]
  by_cases a : DayOk known
  · rw [if_pos a, if_pos (by simp [a])]
  · rw [if_neg a, if_neg (by simp [a])]
theorem ref_given_eq (no rate : Int) (l : List S26) (known : Int) (ds gs : List Int) (hn : l.length ≤ 100) (hd : ds.length ≤ 100) :
    ∃ e, ErrS no rate l e ∧ ((askE e [known] ≠ 0 ∧ Ev (fun k => snowlineref01_given.f k no rate l known ds gs) (askE e [known])) ∨ (askE e [known] = 0 ∧ ¬ Fit ds gs ∧ Ev (fun k => snowlineref01_given.f k no rate l known ds gs) 1) ∨ (askE e [known] = 0 ∧ Fit ds gs ∧ Ev (fun k => snowlineref01_given.f k no rate l known ds gs) 0)) := by
  obtain ⟨e, he, hev⟩ := ref_CheckScale_eq no rate l hn
  refine ⟨e, he, ?_⟩
  unfold snowlineref01_given.f
  by_cases a : e = 0
  · rw [askE1 a]
    by_cases b : DayOk known
    · rw [if_pos b]
      have hk : decide (DayOk known) = true := decide_eq_true b
      rcases ref_Rising_eq ds hd with ⟨c, v⟩ | ⟨⟨c, c'⟩, v⟩
      · exact .inr (.inl ⟨rfl, fun h => c h.2, Ev.bind hev (Ev.congr (fun k => if_pos a) (Ev.bindc (ref_Day_eq known) (Ev.bind v (Ev.congr (fun k => (if_pos hk).trans (if_neg (by decide))) (Ev.now _)))))⟩)
      · by_cases d : ds.length = gs.length
        · exact .inr (.inr ⟨rfl, ⟨d, c, c'⟩, Ev.bind hev (Ev.congr (fun k => if_pos a) (Ev.bindc (ref_Day_eq known) (Ev.bind v (Ev.congr (fun k => (if_pos hk).trans ((if_pos rfl).trans (if_pos (by omega)))) (Ev.now _)))))⟩)
        · exact .inr (.inl ⟨rfl, fun h => d h.1, Ev.bind hev (Ev.congr (fun k => if_pos a) (Ev.bindc (ref_Day_eq known) (Ev.bind v (Ev.congr (fun k => (if_pos hk).trans ((if_pos rfl).trans (if_neg (by omega)))) (Ev.now _)))))⟩)
    · rw [if_neg b]
      have hk : ¬ decide (DayOk known) = true := by simp [b]
      refine .inl ⟨by decide, Ev.bind hev (Ev.congr (fun k => if_pos a) (Ev.bindc (ref_Day_eq known) ?_))⟩
      rcases ref_Rising_eq ds hd with ⟨c, v⟩ | ⟨c, v⟩
      · exact Ev.bind v (Ev.congr (fun k => if_neg hk) (Ev.now _))
      · exact Ev.bind v (Ev.congr (fun k => if_neg hk) (Ev.now _))
  · have hz : askE e [known] = e := by unfold askE; rw [if_neg a]
    rw [hz]
    exact .inl ⟨a, Ev.bind hev (Ev.congr (fun k => if_neg a) (Ev.now _))⟩
theorem ref_History_eq (no rate : Int) (l : List S26) (known : Int) (ds gs : List Int) (hn : l.length ≤ 100) (hd : ds.length ≤ 100) : ∃ r, HistIs no rate l known ds gs r ∧ Ev (fun k => snowlineref01_History.f k no rate l known ds gs) r := by
  obtain ⟨e, he, ⟨a, v⟩ | ⟨a, b, v⟩ | ⟨a, b, v⟩⟩ := ref_given_eq no rate l known ds gs hn hd
  · exact ⟨_, ⟨e, he, .inl ⟨a, rfl⟩⟩, by unfold snowlineref01_History.f; exact Ev.bind v (Ev.congr (fun k => if_neg a) (Ev.now _))⟩
  · exact ⟨_, ⟨e, he, .inr (.inl ⟨a, b, rfl⟩)⟩, by unfold snowlineref01_History.f; exact Ev.bind v (Ev.congr (fun k => if_neg (by decide)) (Ev.now _))⟩
  · rcases ref_history_eq no rate l known ds gs (errS_ok he (askE_zero a).1) b.2.1 b.2.2 b.1 with ⟨p, w⟩ | ⟨p, w⟩
    · exact ⟨_, ⟨e, he, .inr (.inr (.inl ⟨a, b, p, rfl⟩))⟩, by unfold snowlineref01_History.f; exact Ev.bind v (Ev.congr (fun k => if_pos rfl) (Ev.bind w (Ev.now _)))⟩
    · exact ⟨_, ⟨e, he, .inr (.inr (.inr ⟨a, b, p, rfl⟩))⟩, by unfold snowlineref01_History.f; exact Ev.bind v (Ev.congr (fun k => if_pos rfl) (Ev.bind w (Ev.now _)))⟩
def topOf (rate : Int) (l : List S26) (known : Int) (ds gs : List Int) (n : Int) : Int := (List.range ds.length).foldl (fun h j => mn h (atI gs j + rate * dist (atI ds j) n)) (driftOf rate l n known).2
def extOf (rate : Int) (l : List S26) (known : Int) (ds gs more : List Int) : List Int := (List.range more.length).foldl (fun out i => out ++ [topOf rate l known ds gs (atI more i)]) []
theorem fold_succ {σ : Type} (g : Nat → σ → σ) (s : σ) (j : Nat) : (List.range (j + 1)).foldl (fun s i => g i s) s = g j ((List.range j).foldl (fun s i => g i s) s) := by
  rw [List.range_succ, List.foldl_append]
  rfl
theorem course_ext_loop (no rate : Int) (l : List S26) (known : Int) (ds gs more : List Int) (hs : OkS no rate l) (hr : Ris ds) (hn : ds.length ≤ 64) (hg : ds.length = gs.length) (hp : Poss rate l known ds gs) (hm : Ris more) (hl : more.length ≤ 64) :
    Ev (fun k => course_Extend.l0 k known ds gs [] more (more.length : Int) 0 no rate l) (extOf rate l known ds gs more, true, 0) := by
  refine foldE more.length (fun k i (out : List Int) => course_Extend.l0 k known ds gs out more (more.length : Int) i no rate l) (fun i out => out ++ [topOf rate l known ds gs (atI more i)]) (fun i out => out.length = i) (fun out => (out, true, 0))
    (fun i s hi h => by simp [h]) (fun i out hi ho r hE => ?_) (fun s _ => Ev.step (fun k => by simp only [course_Extend.l0]; rw [if_neg (by omega)]) (Ev.now _)) [] rfl
  have hday := (hm i hi).1
  refine Ev.step (f := fun k => (course_drift.f k no rate l (atI more i) known).bind fun b => course_Extend.l1 k known ds gs out (atI more i) b.2 more (more.length : Int) (i : Int) ds (ds.length : Int) 0 no rate l) (fun k => ?_) (Ev.bind (course_drift_eq no rate l (atI more i) known hs hday).2 ?_)
  · simp only [course_Extend.l0]
    rw [if_pos (by omega), if_pos (by omega), if_pos (by omega), rd_atI]
  · refine foldE ds.length (fun k j (h : Int) => course_Extend.l1 k known ds gs out (atI more i) h more (more.length : Int) (i : Int) ds (ds.length : Int) j no rate l) (fun j h => mn h (atI gs j + rate * dist (atI ds j) (atI more i))) (fun j h => h = (List.range j).foldl (fun h j => mn h (atI gs j + rate * dist (atI ds j) (atI more i))) (driftOf rate l (atI more i) known).2) (fun _ => r)
      (fun j h hj e => by subst e; exact (fold_succ (fun j h => mn h (atI gs j + rate * dist (atI ds j) (atI more i))) _ j).symm) (fun j h hj e r hr' => ?_) (fun h e => ?_) _ rfl
    · have hw : wrap64 ((j : Int) + 1) = (j : Int) + 1 := w64 (by omega) (by omega)
      have d1 := (hr j hj).1
      have d := dist_range d1 hday
      have m := mulb hs.2.1 hs.2.2.1 d.1 d.2
      have g := gram_in hs d1 (hp j hj).1
      refine Ev.step (fun k => ?_) hr'
      simp only [course_Extend.l1]
      rw [if_pos (by omega), if_pos (by omega), if_pos (by omega), if_pos (by omega), rd_atI, rd_atI, course_apart_eq (day_b d1) (day_b hday)]
      simp only [Option.bind_some]
      rw [w64 (x := rate * dist (atI ds j) (atI more i)) (by omega) (by omega), w64 (x := atI gs j + rate * dist (atI ds j) (atI more i)) (by omega) (by omega), hw]
    · have hw : wrap64 ((i : Int) + 1) = (i : Int) + 1 := w64 (by omega) (by omega)
      refine Ev.step (fun k => ?_) hE
      simp only [course_Extend.l1]
      rw [if_neg (by omega), if_pos (by omega), hw, e]
      rfl
theorem ref_ext_loop (no rate : Int) (l : List S26) (known : Int) (ds gs more : List Int) (hs : OkS no rate l) (hr : Ris ds) (hn : ds.length ≤ 64) (hg : ds.length = gs.length) (hp : Poss rate l known ds gs) (hm : Ris more) (hl : more.length ≤ 64) :
    Ev (fun k => snowlineref01_Extend.l0 k known ds gs more [] 0 no rate l) (extOf rate l known ds gs more, true, 0) := by
  refine foldE more.length (fun k i (out : List Int) => snowlineref01_Extend.l0 k known ds gs more out i no rate l) (fun i out => out ++ [topOf rate l known ds gs (atI more i)]) (fun i out => out.length = i) (fun out => (out, true, 0))
    (fun i s hi h => by simp [h]) (fun i out hi ho r hE => ?_) (fun s _ => Ev.step (fun k => by simp only [snowlineref01_Extend.l0]; rw [if_neg (by omega)]) (Ev.now _)) [] rfl
  have hday := (hm i hi).1
  refine Ev.step (f := fun k => (snowlineref01_drift.f k no rate l (atI more i) known).bind fun b => snowlineref01_Extend.l1 k known ds gs more out (i : Int) b.2 0 no rate l) (fun k => ?_) (Ev.bind (ref_drift_eq no rate l (atI more i) known hs hday) ?_)
  · simp only [snowlineref01_Extend.l0]
    rw [if_pos (by omega), if_pos (by omega), rd_atI]
  · refine foldE ds.length (fun k j (h : Int) => snowlineref01_Extend.l1 k known ds gs more out (i : Int) h j no rate l) (fun j h => mn h (atI gs j + rate * dist (atI ds j) (atI more i))) (fun j h => h = (List.range j).foldl (fun h j => mn h (atI gs j + rate * dist (atI ds j) (atI more i))) (driftOf rate l (atI more i) known).2) (fun _ => r)
      (fun j h hj e => by subst e; exact (fold_succ (fun j h => mn h (atI gs j + rate * dist (atI ds j) (atI more i))) _ j).symm) (fun j h hj e r hr' => ?_) (fun h e => ?_) _ rfl
    · have hw : wrap64 ((j : Int) + 1) = (j : Int) + 1 := w64 (by omega) (by omega)
      have d1 := (hr j hj).1
      have d := dist_range d1 hday
      have m := mulb hs.2.1 hs.2.2.1 d.1 d.2
      have g := gram_in hs d1 (hp j hj).1
      refine Ev.step (fun k => ?_) hr'
      simp only [snowlineref01_Extend.l1]
      rw [if_pos (by omega), if_pos (by omega), if_pos (by omega), if_pos (by omega), if_pos (by omega), rd_atI, rd_atI, rd_atI, ref_far_eq (day_b hday) (day_b d1), dist_comm]
      simp only [Option.bind_some]
      rw [w64 (x := rate * dist (atI ds j) (atI more i)) (by omega) (by omega), w64 (x := atI gs j + rate * dist (atI ds j) (atI more i)) (by omega) (by omega), hw]
    · have hw : wrap64 ((i : Int) + 1) = (i : Int) + 1 := w64 (by omega) (by omega)
      refine Ev.step (fun k => ?_) hE
      simp only [snowlineref01_Extend.l1]
      rw [if_neg (by omega), if_pos (by omega), hw, e]
      rfl
def ExtIs (no rate : Int) (l : List S26) (known : Int) (ds gs more : List Int) (r : List Int × Bool × Int) : Prop :=
  ∃ e, ErrS no rate l e ∧ ((askE e [known] ≠ 0 ∧ r = ([], false, askE e [known])) ∨ (askE e [known] = 0 ∧ ¬ (Fit ds gs ∧ Ris more ∧ more.length ≤ 64) ∧ r = ([], false, 1)) ∨ (askE e [known] = 0 ∧ (Fit ds gs ∧ Ris more ∧ more.length ≤ 64) ∧ ¬ Poss rate l known ds gs ∧ r = ([], false, 0)) ∨
    (askE e [known] = 0 ∧ (Fit ds gs ∧ Ris more ∧ more.length ≤ 64) ∧ Poss rate l known ds gs ∧ r = (extOf rate l known ds gs more, true, 0)))
theorem ExtIs.same {no rate : Int} {l : List S26} {known : Int} {ds gs more : List Int} {r r' : List Int × Bool × Int} (h : ExtIs no rate l known ds gs more r) (h' : ExtIs no rate l known ds gs more r') : r = r' := by
  obtain ⟨e, he, h⟩ := h
  obtain ⟨e', he', h'⟩ := h'
  obtain rfl := he.same he'
  rcases h with ⟨a, rfl⟩ | ⟨a, b, rfl⟩ | ⟨a, b, c, rfl⟩ | ⟨a, b, c, rfl⟩ <;> rcases h' with ⟨a', rfl⟩ | ⟨a', b', rfl⟩ | ⟨a', b', c', rfl⟩ | ⟨a', b', c', rfl⟩ <;>
    first | rfl | exact absurd a' a | exact absurd a a' | exact absurd b' b | exact absurd b b' | exact absurd c' c | exact absurd c c'
theorem course_Extend_eq (no rate : Int) (l : List S26) (known : Int) (ds gs more : List Int) (hn : l.length ≤ 100) (hd : ds.length ≤ 100) (hm : more.length ≤ 100) : ∃ r, ExtIs no rate l known ds gs more r ∧ Ev (fun k => course_Extend.f k no rate l known ds gs more) r := by
  obtain ⟨e, he, hev⟩ := course_ask_eq no rate l [known] hn (show 1 ≤ 100 by decide)
  have bad : Ev (fun k => course_Extend.j0 k known ds gs more true no rate l) ([], false, 1) := Ev.step (fun k => by simp only [course_Extend.j0]; rfl) (Ev.now _)
  unfold course_Extend.f
  by_cases a : askE e [known] = 0
  · by_cases b : ds.length = gs.length
    · rcases course_rising_eq ds hd with ⟨c, v⟩ | ⟨⟨c, c'⟩, v⟩
      · exact ⟨_, ⟨e, he, .inr (.inl ⟨a, fun h => c h.1.2, rfl⟩)⟩, Ev.bind hev (Ev.congr (fun k => (if_pos a).trans (if_pos (by omega))) (Ev.bind v (Ev.congr (fun k => if_neg (by decide)) bad)))⟩
      · rcases course_rising_eq more hm with ⟨d, w⟩ | ⟨d, w⟩
        · exact ⟨_, ⟨e, he, .inr (.inl ⟨a, fun h => d h.2, rfl⟩)⟩, Ev.bind hev (Ev.congr (fun k => (if_pos a).trans (if_pos (by omega))) (Ev.bind v (Ev.congr (fun k => if_pos rfl) (Ev.bind w bad))))⟩
        · have hS := errS_ok he (askE_zero a).1
          have go : ∀ {b : Bool} {r : List Int × Bool × Int}, Ev (fun k => course_possible.f k no rate l known ds gs) b → Ev (fun k => if b = true then course_Extend.l0 k known ds gs [] more (more.length : Int) 0 no rate l else some ([], false, 0)) r → Ev (fun k => course_Extend.j0 k known ds gs more false no rate l) r := fun hb hr =>
            Ev.step (f := fun k => (course_possible.f k no rate l known ds gs).bind fun t => if t = true then course_Extend.l0 k known ds gs [] more (more.length : Int) 0 no rate l else some ([], false, 0)) (fun k => by simp only [course_Extend.j0]; rw [if_neg (by decide)]) (Ev.bind hb hr)
          rcases course_possible_eq no rate l known ds gs hS c c' b with ⟨p, q⟩ | ⟨p, q⟩
          · exact ⟨_, ⟨e, he, .inr (.inr (.inl ⟨a, ⟨⟨b, c, c'⟩, d⟩, p, rfl⟩))⟩, Ev.bind hev (Ev.congr (fun k => (if_pos a).trans (if_pos (by omega))) (Ev.bind v (Ev.congr (fun k => if_pos rfl) (Ev.bind w (go q (Ev.congr (fun k => if_neg (by decide)) (Ev.now _)))))))⟩
          · exact ⟨_, ⟨e, he, .inr (.inr (.inr ⟨a, ⟨⟨b, c, c'⟩, d⟩, p, rfl⟩))⟩, Ev.bind hev (Ev.congr (fun k => (if_pos a).trans (if_pos (by omega))) (Ev.bind v (Ev.congr (fun k => if_pos rfl) (Ev.bind w (go q (Ev.congr (fun k => if_pos rfl) (course_ext_loop no rate l known ds gs more hS c c' b p d.1 d.2)))))))⟩
    · exact ⟨_, ⟨e, he, .inr (.inl ⟨a, fun h => b h.1.1, rfl⟩)⟩, Ev.bind hev (Ev.congr (fun k => (if_pos a).trans (if_neg (by omega))) bad)⟩
  · exact ⟨_, ⟨e, he, .inl ⟨a, rfl⟩⟩, Ev.bind hev (Ev.congr (fun k => if_neg a) (Ev.now _))⟩
theorem ref_Extend_eq (no rate : Int) (l : List S26) (known : Int) (ds gs more : List Int) (hn : l.length ≤ 100) (hd : ds.length ≤ 100) (hm : more.length ≤ 100) : ∃ r, ExtIs no rate l known ds gs more r ∧ Ev (fun k => snowlineref01_Extend.f k no rate l known ds gs more) r := by
  unfold snowlineref01_Extend.f
  obtain ⟨e, he, ⟨a, v⟩ | ⟨a, b, v⟩ | ⟨a, b, v⟩⟩ := ref_given_eq no rate l known ds gs hn hd
  · exact ⟨_, ⟨e, he, .inl ⟨a, rfl⟩⟩, Ev.bind v (Ev.congr (fun k => if_neg a) (Ev.now _))⟩
  · exact ⟨_, ⟨e, he, .inr (.inl ⟨a, fun h => b h.1, rfl⟩)⟩, Ev.bind v (Ev.congr (fun k => if_neg (by decide)) (Ev.now _))⟩
  · rcases ref_Rising_eq more hm with ⟨d, w⟩ | ⟨d, w⟩
    · exact ⟨_, ⟨e, he, .inr (.inl ⟨a, fun h => d h.2, rfl⟩)⟩, Ev.bind v (Ev.congr (fun k => if_pos rfl) (Ev.bind w (Ev.congr (fun k => if_neg (by decide)) (Ev.now _))))⟩
    · have hS := errS_ok he (askE_zero a).1
      rcases ref_history_eq no rate l known ds gs hS b.2.1 b.2.2 b.1 with ⟨p, q⟩ | ⟨p, q⟩
      · exact ⟨_, ⟨e, he, .inr (.inr (.inl ⟨a, ⟨b, d⟩, p, rfl⟩))⟩, Ev.bind v (Ev.congr (fun k => if_pos rfl) (Ev.bind w (Ev.congr (fun k => if_pos rfl) (Ev.bind q (Ev.congr (fun k => if_neg (by decide)) (Ev.now _))))))⟩
      · exact ⟨_, ⟨e, he, .inr (.inr (.inr ⟨a, ⟨b, d⟩, p, rfl⟩))⟩, Ev.bind v (Ev.congr (fun k => if_pos rfl) (Ev.bind w (Ev.congr (fun k => if_pos rfl) (Ev.bind q (Ev.congr (fun k => if_pos rfl) (ref_ext_loop no rate l known ds gs more hS b.2.1 b.2.2 b.1 p d.1 d.2))))))⟩
theorem equal_refl (l : List Int) (hn : l.length ≤ 1000) : Ev (fun k => slices_Equal_int_int.f k l l) true := by
  unfold slices_Equal_int_int.f
  simp only [if_pos]
  rcases searchE l.length (fun k i => slices_Equal_int_int.l0 k l l (l.length : Int) i) (fun _ => False) false true (fun i _ hb _ => hb.elim)
    (fun i hi _ _ r h => Ev.step (fun k => by
      have hw : wrap64 ((i : Int) + 1) = (i : Int) + 1 := w64 (by omega) (by omega)
      simp only [slices_Equal_int_int.l0]
      rw [if_pos (by omega), if_pos (by omega), if_pos (by omega), if_pos (by omega), hw]
      rfl) h) (fun _ => Ev.step (fun k => by simp only [slices_Equal_int_int.l0]; rw [if_neg (by omega)]) (Ev.now true)) with ⟨h, _⟩ | ⟨_, h⟩
  · exact absurd (fun _ _ hf => hf) h
  · exact h
theorem extOf_len (rate : Int) (l : List S26) (known : Int) (ds gs more : List Int) : (extOf rate l known ds gs more).length = more.length := by
  have key : ∀ n, ((List.range n).foldl (fun out i => out ++ [topOf rate l known ds gs (atI more i)]) ([] : List Int)).length = n := by
    intro n
    induction n with
    | zero => rfl
    | succ n ih => rw [fold_succ (fun i out => out ++ [topOf rate l known ds gs (atI more i)]), List.length_append, ih]; rfl
  exact key _
theorem ExtIs.len {no rate : Int} {l : List S26} {known : Int} {ds gs more : List Int} {r : List Int × Bool × Int} (h : ExtIs no rate l known ds gs more r) (hm : more.length ≤ 100) : r.1.length ≤ 1000 := by
  obtain ⟨e, he, ⟨_, rfl⟩ | ⟨_, _, rfl⟩ | ⟨_, _, _, rfl⟩ | ⟨_, _, _, rfl⟩⟩ := h
  · simp
  · simp
  · simp
  · show (extOf rate l known ds gs more).length ≤ 1000
    rw [extOf_len]
    omega
end Go.Proofs.YtapijkdgkajoeaaDoor.PF
end
section
namespace Go.Proofs.YtapijkdgkajoeaaDoor.PF
open Go.RowKit Go.Proofs.YtapijkdgkajoeaaDoorW.PrintWords Go.Proofs.YtapijkdgkajoeaaDoorW.PrintLast Go.Proofs.YtapijkdgkajoeaaDoorW.PrintMore
attribute [local go_sem] max2_int min2_int max_two min_two
set_option linter.unusedVariables false
set_option linter.unusedSimpArgs false
attribute [local go_sem high] ixA103_1
theorem eqA40 (d : Nat) (w : World) (x0 y0 : Int) (x1 y1 : Int) :
  (Op.equalIn (d + 2) 40 (.agg #[.int .i64 x0, .int .i64 x1]) (.agg #[.int .i64 y0, .int .i64 y1])).run Tryd.prog w = .ok (x0 == y0 && (x1 == y1)) w := by
 refine eqA_of Tryd.underlying40 (by kernel_rfl) ?_
 refine eqf_cons (by rfl) (by go_simp; rfl) (by go_simp; rfl) (by go_simp) ?_
 exact eqf_last (by rfl) (by go_simp; rfl) (by go_simp; rfl) (by go_simp)
def course_gram.f (a0 : Int) : Option (Bool) := if a0 ≥ 0 then (some (decide (a0 ≤ 1048576))) else (some false)
set_option maxHeartbeats 8000000 in
set_option maxRecDepth 100000 in
theorem course_gram.calls (a0 : Int) (r : Bool) (w : World) (h : course_gram.f a0 = some r) :
  Calls Tryd.prog 92 #[.int .i64 a0] w fun e w' => e = .returned (.bool r) ∧ Drawn0 w w' := by
 have H : (if a0 ≥ 0 then (some (decide (a0 ≤ 1048576))) else (some false)) = some r := h
 clear h
 by_cases c2 : a0 ≥ 0
 ·
  rw [if_pos c2] at H
  have c2b0 : decide (0 ≤ a0) = true := decide_eq_true c2
  clear c2
  obtain rfl := Option.some.inj H
  go_enter Tryd.func92, Tryd.ntmps92
  go_wp2
  go_ret
  exact ⟨by first | rfl | (simp; done) | (simp [*]; done), by repeat (first | exact Drawn0.refl _ | apply Drawn0.step)⟩
 ·
  rw [if_neg c2] at H
  have c2b0 : decide (0 ≤ a0) = false := decide_eq_false c2
  clear c2
  obtain rfl := Option.some.inj H
  go_enter Tryd.func92, Tryd.ntmps92
  go_wp2
  go_ret
  exact ⟨by first | rfl | (simp; done) | (simp [*]; done), by repeat (first | exact Drawn0.refl _ | apply Drawn0.step)⟩
def course_every_at_number.l0 : Nat → List Int → Int → Int → Option (Bool)
 | 0, _, _, _ => none
 | k + 1, x7, x8, x9 => if x9 < x8 then (if 0 ≤ x9 then (if x9 < (x7.length : Int) then ((course_number.f (rd x7 x9)).bind fun t192 => (if t192 = true then (course_every_at_number.l0 k x7 x8 (wrap64 (x9 + 1))) else (some false))) else (none)) else (none)) else (some true)
def course_every_at_number.f (k : Nat)  (l1 : List Int) : Option (Bool) := course_every_at_number.l0 k l1 (l1.length : Int) 0
theorem course_every_at_number.mono_l : ∀ k, (∀ y0 y1 y2, LeO (course_every_at_number.l0 k y0 y1 y2) (course_every_at_number.l0 (k + 1) y0 y1 y2))
 | 0 => fun _ _ _ r h => by simp [course_every_at_number.l0] at h
 | k + 1 => by
  have ih0 := course_every_at_number.mono_l k
  ·
   intro y0 y1 y2
   unfold course_every_at_number.l0
   repeat' first
   | (with_reducible exact ih0 _ _ _)
   | (with_reducible exact LeO.refl _)
   | (with_reducible exact LeO.none _)
   | (with_reducible refine LeO.ite ?_ ?_)
   | (with_reducible refine LeO.bind ?_ (fun _ => ?_))
   | exact ih0 _ _ _
   | exact LeO.none _
   | refine LeO.ite ?_ ?_
   | refine LeO.bind ?_ (fun _ => ?_)
theorem course_every_at_number.mono : ∀ a0 k, LeO (course_every_at_number.f k a0) (course_every_at_number.f (k + 1) a0) := by
 intro a0 k
 have ih0 := course_every_at_number.mono_l k
 unfold course_every_at_number.f
 repeat' first
   | (with_reducible exact ih0 _ _ _)
   | (with_reducible exact LeO.refl _)
   | (with_reducible exact LeO.none _)
   | (with_reducible refine LeO.ite ?_ ?_)
   | (with_reducible refine LeO.bind ?_ (fun _ => ?_))
   | exact ih0 _ _ _
   | exact LeO.none _
   | refine LeO.ite ?_ ?_
   | refine LeO.bind ?_ (fun _ => ?_)
set_option maxHeartbeats 8000000 in
set_option maxRecDepth 100000 in
theorem course_every_at_number.calls (k : Nat)  (A1 : Option Addr) (c1 : Nat) (l1 : List Int) (r : Bool) (w : World) (hr1 : Kd.C (Kd.int .i64) w A1 l1.length l1) (hc1 : l1.length ≤ c1) (h : course_every_at_number.f k l1 = some r) :
  Calls Tryd.prog 90 #[.func (.func 91) #[] #[], .slice A1 l1.length c1] w fun e w' => e = .returned (.bool r) ∧ Drawn0 w w' := by
 have HR1 := Aside0.mk (hr1)
 have HC1 := Aside0.mk (hc1)
 clear hr1 hc1
 have H : (course_every_at_number.l0 k l1 (l1.length : Int) 0) = some r := h
 clear h
 have H' := Aside0.mk H
 clear H
 go_enter Tryd.func90, Tryd.ntmps90
 go_wp2
 go_loopg [9] k (fun kq v9 w' => ∃ (x9_1 : Int), v9 = .int .i64 x9_1 ∧ Aside0 (course_every_at_number.l0 kq l1 (l1.length : Int) x9_1 = some r) ∧ Aside0 (kq ≤ k) ∧ Drawn0 w w')
 case atStart => exact ⟨(0), (by first | rfl | (simp; done) | (simp [*]; done)), H', ⟨Nat.le_refl _⟩, by repeat (first | exact Drawn0.refl _ | apply Drawn0.step)⟩
 case round =>
  clear H'
  try clear c1
  try clear p2
  obtain ⟨x9_1, rfl, HA, HK1, ⟨m1, rfl⟩⟩ := hrel
  cases gk with
  | zero => exact absurd HA.out (by simp [course_every_at_number.l0])
  | succ k1 =>
   have H := HA.out
   clear HA
   simp only [course_every_at_number.l0] at H
   by_cases c3 : x9_1 < (l1.length : Int)
   ·
    rw [if_pos c3] at H
    have c3b0 : decide (x9_1 < (l1.length : Int)) = true := decide_eq_true c3
    clear c3
    by_cases c4 : 0 ≤ x9_1
    ·
     rw [if_pos c4] at H
     have c4b0 : decide (0 ≤ x9_1) = true := decide_eq_true c4
     clear c4
     by_cases c5 : x9_1 < (l1.length : Int)
     ·
      rw [if_pos c5] at H
      have c5b0 : decide (x9_1 < (l1.length : Int)) = true := decide_eq_true c5
      clear c5
      replace H := Option.bind_eq_some_iff.mp H
      obtain ⟨t192, A60, H⟩ := H
      have A6 := Aside0.mk (A60)
      clear A60
      by_cases c7 : t192 = true
      ·
       subst c7
       rw [if_pos rfl] at H
       have H' := Aside0.mk H
       clear H
       have p191 : 0 ≤ (x9_1 : Int) := of_decide_eq_true (by first | (with_reducible assumption) | assumption)
       have q191 : x9_1 < (l1.length : Int) := of_decide_eq_true (by first | (with_reducible assumption) | assumption)
       obtain ⟨ad191, e191, hx191_0⟩ := Kd.at_int HR1.out x9_1 p191 q191
       cases e191
       replace p191 := eq_true p191
       replace q191 := eq_true q191
       go_wp2_with (first | (go_at_call 91; (with_reducible refine (course_number.calls (rd l1 x9_1) true _ A6.out).mono ?_); rintro e w' ⟨rfl, ⟨nd, rfl⟩⟩))
       go_roundg k1
       case measure => have := HK1.out; omega
       case rel => exact ⟨(wrap64 (x9_1 + 1)), (by first | rfl | (simp; done) | (simp [*]; done)), H', ⟨by have := HK1.out; omega⟩, by repeat (first | exact Drawn0.refl _ | apply Drawn0.step)⟩
      ·
       replace c7 := Bool.eq_false_iff.mpr c7
       subst c7
       rw [if_neg (show ¬ (false = true) by decide)] at H
       obtain rfl := Option.some.inj H
       have p191 : 0 ≤ (x9_1 : Int) := of_decide_eq_true (by first | (with_reducible assumption) | assumption)
       have q191 : x9_1 < (l1.length : Int) := of_decide_eq_true (by first | (with_reducible assumption) | assumption)
       obtain ⟨ad191, e191, hx191_0⟩ := Kd.at_int HR1.out x9_1 p191 q191
       cases e191
       replace p191 := eq_true p191
       replace q191 := eq_true q191
       go_wp2_with (first | (go_at_call 91; (with_reducible refine (course_number.calls (rd l1 x9_1) false _ A6.out).mono ?_); rintro e w' ⟨rfl, ⟨nd, rfl⟩⟩))
       go_ret
       exact ⟨by first | rfl | (simp; done) | (simp [*]; done), by repeat (first | exact Drawn0.refl _ | apply Drawn0.step)⟩
     ·
      rw [if_neg c5] at H
      exact absurd H (by simp)
    ·
     rw [if_neg c4] at H
     exact absurd H (by simp)
   ·
    rw [if_neg c3] at H
    have c3b0 : decide (x9_1 < (l1.length : Int)) = false := decide_eq_false c3
    clear c3
    obtain rfl := Option.some.inj H
    go_wp2
    go_ret
    exact ⟨by first | rfl | (simp; done) | (simp [*]; done), by repeat (first | exact Drawn0.refl _ | apply Drawn0.step)⟩
def course_every_at_day.l0 : Nat → List Int → Int → Int → Option (Bool)
 | 0, _, _, _ => none
 | k + 1, x7, x8, x9 => if x9 < x8 then (if 0 ≤ x9 then (if x9 < (x7.length : Int) then ((course_day.f (rd x7 x9)).bind fun t194 => (if t194 = true then (course_every_at_day.l0 k x7 x8 (wrap64 (x9 + 1))) else (some false))) else (none)) else (none)) else (some true)
def course_every_at_day.f (k : Nat)  (l1 : List Int) : Option (Bool) := course_every_at_day.l0 k l1 (l1.length : Int) 0
theorem course_every_at_day.mono_l : ∀ k, (∀ y0 y1 y2, LeO (course_every_at_day.l0 k y0 y1 y2) (course_every_at_day.l0 (k + 1) y0 y1 y2))
 | 0 => fun _ _ _ r h => by simp [course_every_at_day.l0] at h
 | k + 1 => by
  have ih0 := course_every_at_day.mono_l k
  ·
   intro y0 y1 y2
   unfold course_every_at_day.l0
   repeat' first
   | (with_reducible exact ih0 _ _ _)
   | (with_reducible exact LeO.refl _)
   | (with_reducible exact LeO.none _)
   | (with_reducible refine LeO.ite ?_ ?_)
   | (with_reducible refine LeO.bind ?_ (fun _ => ?_))
   | exact ih0 _ _ _
   | exact LeO.none _
   | refine LeO.ite ?_ ?_
   | refine LeO.bind ?_ (fun _ => ?_)
theorem course_every_at_day.mono : ∀ a0 k, LeO (course_every_at_day.f k a0) (course_every_at_day.f (k + 1) a0) := by
 intro a0 k
 have ih0 := course_every_at_day.mono_l k
 unfold course_every_at_day.f
 repeat' first
   | (with_reducible exact ih0 _ _ _)
   | (with_reducible exact LeO.refl _)
   | (with_reducible exact LeO.none _)
   | (with_reducible refine LeO.ite ?_ ?_)
   | (with_reducible refine LeO.bind ?_ (fun _ => ?_))
   | exact ih0 _ _ _
   | exact LeO.none _
   | refine LeO.ite ?_ ?_
   | refine LeO.bind ?_ (fun _ => ?_)
set_option maxHeartbeats 8000000 in
set_option maxRecDepth 100000 in
theorem course_every_at_day.calls (k : Nat)  (A1 : Option Addr) (c1 : Nat) (l1 : List Int) (r : Bool) (w : World) (hr1 : Kd.C (Kd.int .i64) w A1 l1.length l1) (hc1 : l1.length ≤ c1) (h : course_every_at_day.f k l1 = some r) :
  Calls Tryd.prog 90 #[.func (.func 74) #[] #[], .slice A1 l1.length c1] w fun e w' => e = .returned (.bool r) ∧ Drawn0 w w' := by
 have HR1 := Aside0.mk (hr1)
 have HC1 := Aside0.mk (hc1)
 clear hr1 hc1
 have H : (course_every_at_day.l0 k l1 (l1.length : Int) 0) = some r := h
 clear h
 have H' := Aside0.mk H
 clear H
 go_enter Tryd.func90, Tryd.ntmps90
 go_wp2
 go_loopg [9] k (fun kq v9 w' => ∃ (x9_1 : Int), v9 = .int .i64 x9_1 ∧ Aside0 (course_every_at_day.l0 kq l1 (l1.length : Int) x9_1 = some r) ∧ Aside0 (kq ≤ k) ∧ Drawn0 w w')
 case atStart => exact ⟨(0), (by first | rfl | (simp; done) | (simp [*]; done)), H', ⟨Nat.le_refl _⟩, by repeat (first | exact Drawn0.refl _ | apply Drawn0.step)⟩
 case round =>
  clear H'
  try clear c1
  try clear p2
  obtain ⟨x9_1, rfl, HA, HK1, ⟨m1, rfl⟩⟩ := hrel
  cases gk with
  | zero => exact absurd HA.out (by simp [course_every_at_day.l0])
  | succ k1 =>
   have H := HA.out
   clear HA
   simp only [course_every_at_day.l0] at H
   by_cases c3 : x9_1 < (l1.length : Int)
   ·
    rw [if_pos c3] at H
    have c3b0 : decide (x9_1 < (l1.length : Int)) = true := decide_eq_true c3
    clear c3
    by_cases c4 : 0 ≤ x9_1
    ·
     rw [if_pos c4] at H
     have c4b0 : decide (0 ≤ x9_1) = true := decide_eq_true c4
     clear c4
     by_cases c5 : x9_1 < (l1.length : Int)
     ·
      rw [if_pos c5] at H
      have c5b0 : decide (x9_1 < (l1.length : Int)) = true := decide_eq_true c5
      clear c5
      replace H := Option.bind_eq_some_iff.mp H
      obtain ⟨t194, A60, H⟩ := H
      have A6 := Aside0.mk (A60)
      clear A60
      by_cases c7 : t194 = true
      ·
       subst c7
       rw [if_pos rfl] at H
       have H' := Aside0.mk H
       clear H
       have p193 : 0 ≤ (x9_1 : Int) := of_decide_eq_true (by first | (with_reducible assumption) | assumption)
       have q193 : x9_1 < (l1.length : Int) := of_decide_eq_true (by first | (with_reducible assumption) | assumption)
       obtain ⟨ad193, e193, hx193_0⟩ := Kd.at_int HR1.out x9_1 p193 q193
       cases e193
       replace p193 := eq_true p193
       replace q193 := eq_true q193
       go_wp2_with (first | (go_at_call 74; (with_reducible refine (course_day.calls (rd l1 x9_1) true _ A6.out).mono ?_); rintro e w' ⟨rfl, ⟨nd, rfl⟩⟩))
       go_roundg k1
       case measure => have := HK1.out; omega
       case rel => exact ⟨(wrap64 (x9_1 + 1)), (by first | rfl | (simp; done) | (simp [*]; done)), H', ⟨by have := HK1.out; omega⟩, by repeat (first | exact Drawn0.refl _ | apply Drawn0.step)⟩
      ·
       replace c7 := Bool.eq_false_iff.mpr c7
       subst c7
       rw [if_neg (show ¬ (false = true) by decide)] at H
       obtain rfl := Option.some.inj H
       have p193 : 0 ≤ (x9_1 : Int) := of_decide_eq_true (by first | (with_reducible assumption) | assumption)
       have q193 : x9_1 < (l1.length : Int) := of_decide_eq_true (by first | (with_reducible assumption) | assumption)
       obtain ⟨ad193, e193, hx193_0⟩ := Kd.at_int HR1.out x9_1 p193 q193
       cases e193
       replace p193 := eq_true p193
       replace q193 := eq_true q193
       go_wp2_with (first | (go_at_call 74; (with_reducible refine (course_day.calls (rd l1 x9_1) false _ A6.out).mono ?_); rintro e w' ⟨rfl, ⟨nd, rfl⟩⟩))
       go_ret
       exact ⟨by first | rfl | (simp; done) | (simp [*]; done), by repeat (first | exact Drawn0.refl _ | apply Drawn0.step)⟩
     ·
      rw [if_neg c5] at H
      exact absurd H (by simp)
    ·
     rw [if_neg c4] at H
     exact absurd H (by simp)
   ·
    rw [if_neg c3] at H
    have c3b0 : decide (x9_1 < (l1.length : Int)) = false := decide_eq_false c3
    clear c3
    obtain rfl := Option.some.inj H
    go_wp2
    go_ret
    exact ⟨by first | rfl | (simp; done) | (simp [*]; done), by repeat (first | exact Drawn0.refl _ | apply Drawn0.step)⟩
def course_length.f (a0 : Int) : Option (Bool) := if a0 ≥ 0 then (some (decide (a0 ≤ 20000))) else (some false)
set_option maxHeartbeats 8000000 in
set_option maxRecDepth 100000 in
theorem course_length.calls (a0 : Int) (r : Bool) (w : World) (h : course_length.f a0 = some r) :
  Calls Tryd.prog 93 #[.int .i64 a0] w fun e w' => e = .returned (.bool r) ∧ Drawn0 w w' := by
 have H : (if a0 ≥ 0 then (some (decide (a0 ≤ 20000))) else (some false)) = some r := h
 clear h
 by_cases c2 : a0 ≥ 0
 ·
  rw [if_pos c2] at H
  have c2b0 : decide (0 ≤ a0) = true := decide_eq_true c2
  clear c2
  obtain rfl := Option.some.inj H
  go_enter Tryd.func93, Tryd.ntmps93
  go_wp2
  go_ret
  exact ⟨by first | rfl | (simp; done) | (simp [*]; done), by repeat (first | exact Drawn0.refl _ | apply Drawn0.step)⟩
 ·
  rw [if_neg c2] at H
  have c2b0 : decide (0 ≤ a0) = false := decide_eq_false c2
  clear c2
  obtain rfl := Option.some.inj H
  go_enter Tryd.func93, Tryd.ntmps93
  go_wp2
  go_ret
  exact ⟨by first | rfl | (simp; done) | (simp [*]; done), by repeat (first | exact Drawn0.refl _ | apply Drawn0.step)⟩
def course_every_at_length.l0 : Nat → List Int → Int → Int → Option (Bool)
 | 0, _, _, _ => none
 | k + 1, x7, x8, x9 => if x9 < x8 then (if 0 ≤ x9 then (if x9 < (x7.length : Int) then ((course_length.f (rd x7 x9)).bind fun t196 => (if t196 = true then (course_every_at_length.l0 k x7 x8 (wrap64 (x9 + 1))) else (some false))) else (none)) else (none)) else (some true)
def course_every_at_length.f (k : Nat)  (l1 : List Int) : Option (Bool) := course_every_at_length.l0 k l1 (l1.length : Int) 0
theorem course_every_at_length.mono_l : ∀ k, (∀ y0 y1 y2, LeO (course_every_at_length.l0 k y0 y1 y2) (course_every_at_length.l0 (k + 1) y0 y1 y2))
 | 0 => fun _ _ _ r h => by simp [course_every_at_length.l0] at h
 | k + 1 => by
  have ih0 := course_every_at_length.mono_l k
  ·
   intro y0 y1 y2
   unfold course_every_at_length.l0
   repeat' first
   | (with_reducible exact ih0 _ _ _)
   | (with_reducible exact LeO.refl _)
   | (with_reducible exact LeO.none _)
   | (with_reducible refine LeO.ite ?_ ?_)
   | (with_reducible refine LeO.bind ?_ (fun _ => ?_))
   | exact ih0 _ _ _
   | exact LeO.none _
   | refine LeO.ite ?_ ?_
   | refine LeO.bind ?_ (fun _ => ?_)
theorem course_every_at_length.mono : ∀ a0 k, LeO (course_every_at_length.f k a0) (course_every_at_length.f (k + 1) a0) := by
 intro a0 k
 have ih0 := course_every_at_length.mono_l k
 unfold course_every_at_length.f
 repeat' first
   | (with_reducible exact ih0 _ _ _)
   | (with_reducible exact LeO.refl _)
   | (with_reducible exact LeO.none _)
   | (with_reducible refine LeO.ite ?_ ?_)
   | (with_reducible refine LeO.bind ?_ (fun _ => ?_))
   | exact ih0 _ _ _
   | exact LeO.none _
   | refine LeO.ite ?_ ?_
   | refine LeO.bind ?_ (fun _ => ?_)
set_option maxHeartbeats 8000000 in
set_option maxRecDepth 100000 in
theorem course_every_at_length.calls (k : Nat)  (A1 : Option Addr) (c1 : Nat) (l1 : List Int) (r : Bool) (w : World) (hr1 : Kd.C (Kd.int .i64) w A1 l1.length l1) (hc1 : l1.length ≤ c1) (h : course_every_at_length.f k l1 = some r) :
  Calls Tryd.prog 90 #[.func (.func 93) #[] #[], .slice A1 l1.length c1] w fun e w' => e = .returned (.bool r) ∧ Drawn0 w w' := by
 have HR1 := Aside0.mk (hr1)
 have HC1 := Aside0.mk (hc1)
 clear hr1 hc1
 have H : (course_every_at_length.l0 k l1 (l1.length : Int) 0) = some r := h
 clear h
 have H' := Aside0.mk H
 clear H
 go_enter Tryd.func90, Tryd.ntmps90
 go_wp2
 go_loopg [9] k (fun kq v9 w' => ∃ (x9_1 : Int), v9 = .int .i64 x9_1 ∧ Aside0 (course_every_at_length.l0 kq l1 (l1.length : Int) x9_1 = some r) ∧ Aside0 (kq ≤ k) ∧ Drawn0 w w')
 case atStart => exact ⟨(0), (by first | rfl | (simp; done) | (simp [*]; done)), H', ⟨Nat.le_refl _⟩, by repeat (first | exact Drawn0.refl _ | apply Drawn0.step)⟩
 case round =>
  clear H'
  try clear c1
  try clear p2
  obtain ⟨x9_1, rfl, HA, HK1, ⟨m1, rfl⟩⟩ := hrel
  cases gk with
  | zero => exact absurd HA.out (by simp [course_every_at_length.l0])
  | succ k1 =>
   have H := HA.out
   clear HA
   simp only [course_every_at_length.l0] at H
   by_cases c3 : x9_1 < (l1.length : Int)
   ·
    rw [if_pos c3] at H
    have c3b0 : decide (x9_1 < (l1.length : Int)) = true := decide_eq_true c3
    clear c3
    by_cases c4 : 0 ≤ x9_1
    ·
     rw [if_pos c4] at H
     have c4b0 : decide (0 ≤ x9_1) = true := decide_eq_true c4
     clear c4
     by_cases c5 : x9_1 < (l1.length : Int)
     ·
      rw [if_pos c5] at H
      have c5b0 : decide (x9_1 < (l1.length : Int)) = true := decide_eq_true c5
      clear c5
      replace H := Option.bind_eq_some_iff.mp H
      obtain ⟨t196, A60, H⟩ := H
      have A6 := Aside0.mk (A60)
      clear A60
      by_cases c7 : t196 = true
      ·
       subst c7
       rw [if_pos rfl] at H
       have H' := Aside0.mk H
       clear H
       have p195 : 0 ≤ (x9_1 : Int) := of_decide_eq_true (by first | (with_reducible assumption) | assumption)
       have q195 : x9_1 < (l1.length : Int) := of_decide_eq_true (by first | (with_reducible assumption) | assumption)
       obtain ⟨ad195, e195, hx195_0⟩ := Kd.at_int HR1.out x9_1 p195 q195
       cases e195
       replace p195 := eq_true p195
       replace q195 := eq_true q195
       go_wp2_with (first | (go_at_call 93; (with_reducible refine (course_length.calls (rd l1 x9_1) true _ A6.out).mono ?_); rintro e w' ⟨rfl, ⟨nd, rfl⟩⟩))
       go_roundg k1
       case measure => have := HK1.out; omega
       case rel => exact ⟨(wrap64 (x9_1 + 1)), (by first | rfl | (simp; done) | (simp [*]; done)), H', ⟨by have := HK1.out; omega⟩, by repeat (first | exact Drawn0.refl _ | apply Drawn0.step)⟩
      ·
       replace c7 := Bool.eq_false_iff.mpr c7
       subst c7
       rw [if_neg (show ¬ (false = true) by decide)] at H
       obtain rfl := Option.some.inj H
       have p195 : 0 ≤ (x9_1 : Int) := of_decide_eq_true (by first | (with_reducible assumption) | assumption)
       have q195 : x9_1 < (l1.length : Int) := of_decide_eq_true (by first | (with_reducible assumption) | assumption)
       obtain ⟨ad195, e195, hx195_0⟩ := Kd.at_int HR1.out x9_1 p195 q195
       cases e195
       replace p195 := eq_true p195
       replace q195 := eq_true q195
       go_wp2_with (first | (go_at_call 93; (with_reducible refine (course_length.calls (rd l1 x9_1) false _ A6.out).mono ?_); rintro e w' ⟨rfl, ⟨nd, rfl⟩⟩))
       go_ret
       exact ⟨by first | rfl | (simp; done) | (simp [*]; done), by repeat (first | exact Drawn0.refl _ | apply Drawn0.step)⟩
     ·
      rw [if_neg c5] at H
      exact absurd H (by simp)
    ·
     rw [if_neg c4] at H
     exact absurd H (by simp)
   ·
    rw [if_neg c3] at H
    have c3b0 : decide (x9_1 < (l1.length : Int)) = false := decide_eq_false c3
    clear c3
    obtain rfl := Option.some.inj H
    go_wp2
    go_ret
    exact ⟨by first | rfl | (simp; done) | (simp [*]; done), by repeat (first | exact Drawn0.refl _ | apply Drawn0.step)⟩
def course_every_at_gram.l0 : Nat → List Int → Int → Int → Option (Bool)
 | 0, _, _, _ => none
 | k + 1, x7, x8, x9 => if x9 < x8 then (if 0 ≤ x9 then (if x9 < (x7.length : Int) then ((course_gram.f (rd x7 x9)).bind fun t198 => (if t198 = true then (course_every_at_gram.l0 k x7 x8 (wrap64 (x9 + 1))) else (some false))) else (none)) else (none)) else (some true)
def course_every_at_gram.f (k : Nat)  (l1 : List Int) : Option (Bool) := course_every_at_gram.l0 k l1 (l1.length : Int) 0
theorem course_every_at_gram.mono_l : ∀ k, (∀ y0 y1 y2, LeO (course_every_at_gram.l0 k y0 y1 y2) (course_every_at_gram.l0 (k + 1) y0 y1 y2))
 | 0 => fun _ _ _ r h => by simp [course_every_at_gram.l0] at h
 | k + 1 => by
  have ih0 := course_every_at_gram.mono_l k
  ·
   intro y0 y1 y2
   unfold course_every_at_gram.l0
   repeat' first
   | (with_reducible exact ih0 _ _ _)
   | (with_reducible exact LeO.refl _)
   | (with_reducible exact LeO.none _)
   | (with_reducible refine LeO.ite ?_ ?_)
   | (with_reducible refine LeO.bind ?_ (fun _ => ?_))
   | exact ih0 _ _ _
   | exact LeO.none _
   | refine LeO.ite ?_ ?_
   | refine LeO.bind ?_ (fun _ => ?_)
theorem course_every_at_gram.mono : ∀ a0 k, LeO (course_every_at_gram.f k a0) (course_every_at_gram.f (k + 1) a0) := by
 intro a0 k
 have ih0 := course_every_at_gram.mono_l k
 unfold course_every_at_gram.f
 repeat' first
   | (with_reducible exact ih0 _ _ _)
   | (with_reducible exact LeO.refl _)
   | (with_reducible exact LeO.none _)
   | (with_reducible refine LeO.ite ?_ ?_)
   | (with_reducible refine LeO.bind ?_ (fun _ => ?_))
   | exact ih0 _ _ _
   | exact LeO.none _
   | refine LeO.ite ?_ ?_
   | refine LeO.bind ?_ (fun _ => ?_)
set_option maxHeartbeats 8000000 in
set_option maxRecDepth 100000 in
theorem course_every_at_gram.calls (k : Nat)  (A1 : Option Addr) (c1 : Nat) (l1 : List Int) (r : Bool) (w : World) (hr1 : Kd.C (Kd.int .i64) w A1 l1.length l1) (hc1 : l1.length ≤ c1) (h : course_every_at_gram.f k l1 = some r) :
  Calls Tryd.prog 90 #[.func (.func 92) #[] #[], .slice A1 l1.length c1] w fun e w' => e = .returned (.bool r) ∧ Drawn0 w w' := by
 have HR1 := Aside0.mk (hr1)
 have HC1 := Aside0.mk (hc1)
 clear hr1 hc1
 have H : (course_every_at_gram.l0 k l1 (l1.length : Int) 0) = some r := h
 clear h
 have H' := Aside0.mk H
 clear H
 go_enter Tryd.func90, Tryd.ntmps90
 go_wp2
 go_loopg [9] k (fun kq v9 w' => ∃ (x9_1 : Int), v9 = .int .i64 x9_1 ∧ Aside0 (course_every_at_gram.l0 kq l1 (l1.length : Int) x9_1 = some r) ∧ Aside0 (kq ≤ k) ∧ Drawn0 w w')
 case atStart => exact ⟨(0), (by first | rfl | (simp; done) | (simp [*]; done)), H', ⟨Nat.le_refl _⟩, by repeat (first | exact Drawn0.refl _ | apply Drawn0.step)⟩
 case round =>
  clear H'
  try clear c1
  try clear p2
  obtain ⟨x9_1, rfl, HA, HK1, ⟨m1, rfl⟩⟩ := hrel
  cases gk with
  | zero => exact absurd HA.out (by simp [course_every_at_gram.l0])
  | succ k1 =>
   have H := HA.out
   clear HA
   simp only [course_every_at_gram.l0] at H
   by_cases c3 : x9_1 < (l1.length : Int)
   ·
    rw [if_pos c3] at H
    have c3b0 : decide (x9_1 < (l1.length : Int)) = true := decide_eq_true c3
    clear c3
    by_cases c4 : 0 ≤ x9_1
    ·
     rw [if_pos c4] at H
     have c4b0 : decide (0 ≤ x9_1) = true := decide_eq_true c4
     clear c4
     by_cases c5 : x9_1 < (l1.length : Int)
     ·
      rw [if_pos c5] at H
      have c5b0 : decide (x9_1 < (l1.length : Int)) = true := decide_eq_true c5
      clear c5
      replace H := Option.bind_eq_some_iff.mp H
      obtain ⟨t198, A60, H⟩ := H
      have A6 := Aside0.mk (A60)
      clear A60
      by_cases c7 : t198 = true
      ·
       subst c7
       rw [if_pos rfl] at H
       have H' := Aside0.mk H
       clear H
       have p197 : 0 ≤ (x9_1 : Int) := of_decide_eq_true (by first | (with_reducible assumption) | assumption)
       have q197 : x9_1 < (l1.length : Int) := of_decide_eq_true (by first | (with_reducible assumption) | assumption)
       obtain ⟨ad197, e197, hx197_0⟩ := Kd.at_int HR1.out x9_1 p197 q197
       cases e197
       replace p197 := eq_true p197
       replace q197 := eq_true q197
       go_wp2_with (first | (go_at_call 92; (with_reducible refine (course_gram.calls (rd l1 x9_1) true _ A6.out).mono ?_); rintro e w' ⟨rfl, ⟨nd, rfl⟩⟩))
       go_roundg k1
       case measure => have := HK1.out; omega
       case rel => exact ⟨(wrap64 (x9_1 + 1)), (by first | rfl | (simp; done) | (simp [*]; done)), H', ⟨by have := HK1.out; omega⟩, by repeat (first | exact Drawn0.refl _ | apply Drawn0.step)⟩
      ·
       replace c7 := Bool.eq_false_iff.mpr c7
       subst c7
       rw [if_neg (show ¬ (false = true) by decide)] at H
       obtain rfl := Option.some.inj H
       have p197 : 0 ≤ (x9_1 : Int) := of_decide_eq_true (by first | (with_reducible assumption) | assumption)
       have q197 : x9_1 < (l1.length : Int) := of_decide_eq_true (by first | (with_reducible assumption) | assumption)
       obtain ⟨ad197, e197, hx197_0⟩ := Kd.at_int HR1.out x9_1 p197 q197
       cases e197
       replace p197 := eq_true p197
       replace q197 := eq_true q197
       go_wp2_with (first | (go_at_call 92; (with_reducible refine (course_gram.calls (rd l1 x9_1) false _ A6.out).mono ?_); rintro e w' ⟨rfl, ⟨nd, rfl⟩⟩))
       go_ret
       exact ⟨by first | rfl | (simp; done) | (simp [*]; done), by repeat (first | exact Drawn0.refl _ | apply Drawn0.step)⟩
     ·
      rw [if_neg c5] at H
      exact absurd H (by simp)
    ·
     rw [if_neg c4] at H
     exact absurd H (by simp)
   ·
    rw [if_neg c3] at H
    have c3b0 : decide (x9_1 < (l1.length : Int)) = false := decide_eq_false c3
    clear c3
    obtain rfl := Option.some.inj H
    go_wp2
    go_ret
    exact ⟨by first | rfl | (simp; done) | (simp [*]; done), by repeat (first | exact Drawn0.refl _ | apply Drawn0.step)⟩
end Go.Proofs.YtapijkdgkajoeaaDoor.PF
end
