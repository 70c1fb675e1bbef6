/- What the law's proof leans on. Part 2 of 6. -/
import Derived.Test.YtapijkdgkajoeaaDoorHiA
section
namespace Go.Proofs.YtapijkdgkajoeaaDoor.PF
open Go.RowKit Go.Proofs.YtapijkdgkajoeaaDoorW.PrintWords Go.Proofs.YtapijkdgkajoeaaDoorW.PrintLast Go.Proofs.YtapijkdgkajoeaaDoorW.PrintMore
attribute [local go_sem] max2_int min2_int max_two min_two
set_option linter.unusedVariables false
set_option linter.unusedSimpArgs false
attribute [local go_sem high] ixA103_1
mutual
def course_AddTest.j0 : Nat → Int → Bool → Int → Int → List (S26) → Int → Int → Int → Int → Option (Int × Int × (List (S26)) × Int)
 | 0, _, _, _, _, _, _, _, _, _ => none
 | k + 1, x7, x39, x127000, x127001, x127002, x128000, x128001, x128002, x128003 => if x39 = true then (some (0, 0, ([] : List (S26)), 1)) else (course_AddTest.l0 k x7 x127002 (x127002.length : Int) 0 x127000 x127001 x127002 x128000 x128001 x128002 x128003)
def course_AddTest.l0 : Nat → Int → List (S26) → Int → Int → Int → Int → List (S26) → Int → Int → Int → Int → Option (Int × Int × (List (S26)) × Int)
 | 0, _, _, _, _, _, _, _, _, _, _, _ => none
 | k + 1, x7, x42, x43, x44, x127000, x127001, x127002, x128000, x128001, x128002, x128003 => if x44 < x43 then (if 0 ≤ x44 then (if x44 < (x42.length : Int) then ((course_contradict.f x127001 x128000 x128001 x128002 x128003 ((rd_T26 x42 x44).f0) ((rd_T26 x42 x44).f1) ((rd_T26 x42 x44).f2) ((rd_T26 x42 x44).f3)).bind fun t134 => (if t134 = true then (some (0, 0, ([] : List (S26)), 13)) else (course_AddTest.l0 k x7 x42 x43 (wrap64 (x44 + 1)) x127000 x127001 x127002 x128000 x128001 x128002 x128003))) else (none)) else (none)) else (if x7 ≤ (x127002.length : Int) then (if (x127002.length : Int) ≤ x7 then (if x127002.length < 4398046511104 then (some (x127000, x127001, (x127002 ++ [(⟨x128000, x128001, x128002, x128003⟩ : S26)]), 0)) else (none)) else (none)) else (none))
end
def course_AddTest.f (k : Nat) (a0_0 : Int) (a0_1 : Int) (l0_2 : List (S26)) (a1_0 : Int) (a1_1 : Int) (a1_2 : Int) (a1_3 : Int) : Option (Int × Int × (List (S26)) × Int) := (course_CheckScale.f k a0_0 a0_1 l0_2).bind fun t129 => (if t129 = 0 then ((course_CheckTest.f a1_0 a1_1 a1_2 a1_3).bind fun t130 => (if t130 = 0 then (if (l0_2.length : Int) = 64 then (some (0, 0, ([] : List (S26)), 2)) else (if (l0_2.length : Int) > 0 then (if 0 ≤ (wrap64 ((l0_2.length : Int) - 1)) then (if (wrap64 ((l0_2.length : Int) - 1)) < (l0_2.length : Int) then (course_AddTest.j0 k (l0_2.length : Int) (decide (a1_1 < ((rd_T26 l0_2 (wrap64 ((l0_2.length : Int) - 1))).f1))) a0_0 a0_1 l0_2 a1_0 a1_1 a1_2 a1_3) else (none)) else (none)) else (course_AddTest.j0 k (l0_2.length : Int) false a0_0 a0_1 l0_2 a1_0 a1_1 a1_2 a1_3))) else (some (0, 0, ([] : List (S26)), 10)))) else (some (0, 0, ([] : List (S26)), t129)))
theorem course_AddTest.mono_l : ∀ k, (∀ y0 y1 y2 y3 y4 y5 y6 y7 y8, LeO (course_AddTest.j0 k y0 y1 y2 y3 y4 y5 y6 y7 y8) (course_AddTest.j0 (k + 1) y0 y1 y2 y3 y4 y5 y6 y7 y8)) ∧ (∀ y0 y1 y2 y3 y4 y5 y6 y7 y8 y9 y10, LeO (course_AddTest.l0 k y0 y1 y2 y3 y4 y5 y6 y7 y8 y9 y10) (course_AddTest.l0 (k + 1) y0 y1 y2 y3 y4 y5 y6 y7 y8 y9 y10))
 | 0 => ⟨fun _ _ _ _ _ _ _ _ _ r h => by simp [course_AddTest.j0] at h, fun _ _ _ _ _ _ _ _ _ _ _ r h => by simp [course_AddTest.l0] at h⟩
 | k + 1 => by
  obtain ⟨ih0, ih1⟩ := course_AddTest.mono_l k
  refine ⟨?_, ?_⟩
  ·
   intro y0 y1 y2 y3 y4 y5 y6 y7 y8
   unfold course_AddTest.j0
   repeat' first
   | (with_reducible exact ih0 _ _ _ _ _ _ _ _ _)
   | (with_reducible exact ih1 _ _ _ _ _ _ _ _ _ _ _)
   | (with_reducible exact course_CheckScale.mono _ _ _ _)
   | (with_reducible exact LeO.refl _)
   | (with_reducible exact LeO.none _)
   | (with_reducible refine LeO.ite ?_ ?_)
   | (with_reducible refine LeO.bind ?_ (fun _ => ?_))
   | exact ih0 _ _ _ _ _ _ _ _ _
   | exact ih1 _ _ _ _ _ _ _ _ _ _ _
   | exact course_CheckScale.mono _ _ _ _
   | exact LeO.none _
   | refine LeO.ite ?_ ?_
   | refine LeO.bind ?_ (fun _ => ?_)
  ·
   intro y0 y1 y2 y3 y4 y5 y6 y7 y8 y9 y10
   unfold course_AddTest.l0
   repeat' first
   | (with_reducible exact ih0 _ _ _ _ _ _ _ _ _)
   | (with_reducible exact ih1 _ _ _ _ _ _ _ _ _ _ _)
   | (with_reducible exact course_CheckScale.mono _ _ _ _)
   | (with_reducible exact LeO.refl _)
   | (with_reducible exact LeO.none _)
   | (with_reducible refine LeO.ite ?_ ?_)
   | (with_reducible refine LeO.bind ?_ (fun _ => ?_))
   | exact ih0 _ _ _ _ _ _ _ _ _
   | exact ih1 _ _ _ _ _ _ _ _ _ _ _
   | exact course_CheckScale.mono _ _ _ _
   | exact LeO.none _
   | refine LeO.ite ?_ ?_
   | refine LeO.bind ?_ (fun _ => ?_)
theorem course_AddTest.mono : ∀ a0 a1 a2 a3 a4 a5 a6 k, LeO (course_AddTest.f k a0 a1 a2 a3 a4 a5 a6) (course_AddTest.f (k + 1) a0 a1 a2 a3 a4 a5 a6) := by
 intro a0 a1 a2 a3 a4 a5 a6 k
 obtain ⟨ih0, ih1⟩ := course_AddTest.mono_l k
 unfold course_AddTest.f
 repeat' first
   | (with_reducible exact ih0 _ _ _ _ _ _ _ _ _)
   | (with_reducible exact ih1 _ _ _ _ _ _ _ _ _ _ _)
   | (with_reducible exact course_CheckScale.mono _ _ _ _)
   | (with_reducible exact LeO.refl _)
   | (with_reducible exact LeO.none _)
   | (with_reducible refine LeO.ite ?_ ?_)
   | (with_reducible refine LeO.bind ?_ (fun _ => ?_))
   | exact ih0 _ _ _ _ _ _ _ _ _
   | exact ih1 _ _ _ _ _ _ _ _ _ _ _
   | exact course_CheckScale.mono _ _ _ _
   | exact LeO.none _
   | refine LeO.ite ?_ ?_
   | refine LeO.bind ?_ (fun _ => ?_)
def course_AddTest.T9 : Bool × List (List Nat × List Nat) := (true, [([], []), ([0], [0]), ([1], [1]), ([2], [2]), ([3, 2], [2, 3]), ([2], [2]), ([5, 2], [2, 5]), ([2], [2]), ([7, 2], [2, 7]), ([6, 8, 2], [2, 6, 8]), ([9, 2], [2, 9]), ([10, 2], [2, 10]), ([4, 11, 2], [2, 4, 11]), ([2, 12], [2, 12])])
def course_AddTest.B9 : List Nat := [0, 1, 3, 7, 15, 7, 39, 7, 135, 487, 999, 2023, 4095, 8191]
theorem course_AddTest.tab9 : rtab .any (opsOf Tryd.f16 9) = course_AddTest.T9 := by kernel_rfl
theorem course_AddTest.bits9 : waitsOk course_AddTest.T9.2 course_AddTest.B9 = true := by kernel_rfl
def course_AddTest.T17 : Bool × List (List Nat × List Nat) := (true, [([], []), ([0], [0]), ([], []), ([], []), ([1, 2, 3], [1, 2, 3]), ([], []), ([5], [5]), ([4, 6], [4, 6]), ([0, 1, 2, 3, 4, 5, 6, 7], []), ([8, 7, 7, 0, 1, 2, 3, 4, 5, 6, 7], [7, 8])])
def course_AddTest.B17 : List Nat := [0, 1, 0, 0, 15, 0, 32, 127, 255, 511]
theorem course_AddTest.tab17 : rtab .any (opsOf Tryd.f16 17) = course_AddTest.T17 := by kernel_rfl
theorem course_AddTest.bits17 : waitsOk course_AddTest.T17.2 course_AddTest.B17 = true := by kernel_rfl
set_option maxHeartbeats 8000000 in
set_option maxRecDepth 100000 in
theorem course_AddTest.calls (k : Nat) (a0_0 : Int) (a0_1 : Int) (A0_2 : Option Addr) (c0_2 : Nat) (l0_2 : List (S26)) (a1_0 : Int) (a1_1 : Int) (a1_2 : Int) (a1_3 : Int) (r1 : Int) (r2 : Int) (r3 : List (S26)) (r4 : Int) (w : World) (hr0_2 : Kd.C k26 w A0_2 l0_2.length l0_2) (hc0_2 : l0_2.length ≤ c0_2) (h : course_AddTest.f k a0_0 a0_1 l0_2 a1_0 a1_1 a1_2 a1_3 = some (r1, r2, r3, r4)) :
  Calls Tryd.prog 16 #[.agg #[.int .i64 a0_0, .int .i64 a0_1, .slice A0_2 l0_2.length c0_2], .agg #[.int .i64 a1_0, .int .i64 a1_1, .int .i64 a1_2, .int .i64 a1_3]] w fun e w' => ∃ v2_ : Value, e = .returned (.tuple #[.agg #[.int .i64 r1, .int .i64 r2, v2_], .int .i64 r4]) ∧ Kd.R k26 26 w' w.heap.size (fun _ => True) v2_ r3 ∧ Below w.heap.size w w' := by
 have hu24 := Tryd.underlying24
 have hu26 := Tryd.underlying26
 have HR0_2 := Aside0.mk (hr0_2)
 have HC0_2 := Aside0.mk (hc0_2)
 clear hr0_2 hc0_2
 have HB := Bw.mk (Below.refl w.heap.size w)
 have H : ((course_CheckScale.f k a0_0 a0_1 l0_2).bind fun t129 => (if t129 = 0 then ((course_CheckTest.f a1_0 a1_1 a1_2 a1_3).bind fun t130 => (if t130 = 0 then (if (l0_2.length : Int) = 64 then (some (0, 0, ([] : List (S26)), 2)) else (if (l0_2.length : Int) > 0 then (if 0 ≤ (wrap64 ((l0_2.length : Int) - 1)) then (if (wrap64 ((l0_2.length : Int) - 1)) < (l0_2.length : Int) then (course_AddTest.j0 k (l0_2.length : Int) (decide (a1_1 < ((rd_T26 l0_2 (wrap64 ((l0_2.length : Int) - 1))).f1))) a0_0 a0_1 l0_2 a1_0 a1_1 a1_2 a1_3) else (none)) else (none)) else (course_AddTest.j0 k (l0_2.length : Int) false a0_0 a0_1 l0_2 a1_0 a1_1 a1_2 a1_3))) else (some (0, 0, ([] : List (S26)), 10)))) else (some (0, 0, ([] : List (S26)), t129)))) = some (r1, r2, r3, r4) := h
 clear h
 replace H := Option.bind_eq_some_iff.mp H
 obtain ⟨t129, A30, H⟩ := H
 have A3 := Aside0.mk (A30)
 clear A30
 by_cases c4 : t129 = 0
 ·
  rw [if_pos c4] at H
  have c4b0 : (t129 == 0) = true := beq_iff_eq.mpr c4
  have c4b1 : (t129 != 0) = false := bne_eq_false_iff_eq.mpr c4
  clear c4
  replace H := Option.bind_eq_some_iff.mp H
  obtain ⟨t130, A50, H⟩ := H
  have A5 := Aside0.mk (A50)
  clear A50
  by_cases c6 : t130 = 0
  ·
   rw [if_pos c6] at H
   have c6b0 : (t130 == 0) = true := beq_iff_eq.mpr c6
   have c6b1 : (t130 != 0) = false := bne_eq_false_iff_eq.mpr c6
   clear c6
   by_cases c7 : (l0_2.length : Int) = 64
   ·
    rw [if_pos c7] at H
    have c7b0 : ((l0_2.length : Int) == 64) = true := beq_iff_eq.mpr c7
    have c7b1 : ((l0_2.length : Int) != 64) = false := bne_eq_false_iff_eq.mpr c7
    clear c7
    simp only [Option.some.injEq, Prod.mk.injEq] at H
    obtain ⟨rfl, rfl, rfl, rfl⟩ := H
    go_enter Tryd.func16, Tryd.ntmps16
    go_wp2_with (first | ((with_reducible refine gate_dst (N := 2) rfl ?_); refine bxE 2 24 #[.int .i64 a0_0, .int .i64 a0_1, .slice A0_2 l0_2.length c0_2] (by rfl) (by rfl) (by first | (go_simp; done) | (go_simp; rfl)) ?_; intro gb126 hg w8 hbox hb; have BK126 := Bk.mk (hbox); have GE126 := eB w hg; replace HB := bS w hb; clear hb hbox hg) | ((with_reducible refine gate_dst (N := 3) rfl ?_); refine bxE 3 26 #[.int .i64 a1_0, .int .i64 a1_1, .int .i64 a1_2, .int .i64 a1_3] (by rfl) (by rfl) (by first | (go_simp; done) | (go_simp; rfl)) ?_; intro gb127 hg w9 hbox hb; have BK127 := Bk.mk (hbox); have GE127 := eB w hg; have NB126_127 := nB gb126 hg; replace BK126 := kB gb126 hb; replace HB := bS w hb; clear hb hbox hg) | ((with_reducible refine gate_dst (N := 4) rfl ?_); refine bxE 4 24 #[.int .i64 0, .int .i64 0, .slice none 0 0] (by rfl) (by rfl) (by first | (go_simp; done) | (go_simp; rfl)) ?_; intro gb128 hg w10 hbox hb; have BK128 := Bk.mk (hbox); have GE128 := eB w hg; have NB126_128 := nB gb126 hg; have NB127_128 := nB gb127 hg; replace BK126 := kB gb126 hb; replace BK127 := kB gb127 hb; replace HB := bS w hb; clear hb hbox hg; obtain ⟨hnb11, hnc11⟩ := nn NB126_127; obtain ⟨hnb12, hnc12⟩ := nn NB126_128; obtain ⟨hcz13_0, hcz13_1, hcz13_2, hfz13_0, hfz13_1, hfz13_2⟩ := cz3 BK126) | ((with_reducible refine gate_callee (f := 20) rfl ?_); refine goesLM (some 11) rfl rfl Tryd.func20 (by kernel_rfl) rfl #[.agg #[.int .i64 a0_0, .int .i64 a0_1, .slice A0_2 l0_2.length c0_2]] rfl (by rfl) ?_; (with_reducible refine (course_CheckScale.calls k a0_0 a0_1 _ _ l0_2 t129 _ ?side1 ?side2 A3.out).mono ?_); (case side1 => exact cP (Kd.C_below HR0_2.out HB.out)); (case side2 => exact HC0_2.out); rintro e w14 ⟨rfl, hb⟩; refine ⟨_, rfl, ?_⟩; replace BK126 := kB gb126 hb; replace BK127 := kB gb127 hb; replace BK128 := kB gb128 hb; replace HB := bS w hb; (try clear hb); obtain ⟨hnb15, hnc15⟩ := nn NB127_128; obtain ⟨hcz16_0, hcz16_1, hcz16_2, hcz16_3, hfz16_0, hfz16_1, hfz16_2, hfz16_3⟩ := cz4 BK127) | ((with_reducible refine gate_callee (f := 18) rfl ?_); refine goesLM (some 17) rfl rfl Tryd.func18 (by kernel_rfl) rfl #[.agg #[.int .i64 a1_0, .int .i64 a1_1, .int .i64 a1_2, .int .i64 a1_3]] rfl (by rfl) ?_; (with_reducible refine (course_CheckTest.calls a1_0 a1_1 a1_2 a1_3 t130 _ A5.out).mono ?_); rintro e w17 ⟨rfl, hb⟩; refine ⟨_, rfl, ?_⟩; replace BK126 := kB gb126 hb; replace BK127 := kB gb127 hb; replace BK128 := kB gb128 hb; replace HB := bS w hb; (try clear hb); obtain ⟨hcz18_0, hcz18_1, hcz18_2, hfz18_0, hfz18_1, hfz18_2⟩ := cz3 BK126; obtain ⟨hcz19_0, hcz19_1, hcz19_2, hfz19_0, hfz19_1, hfz19_2⟩ := cz3 BK128))
    all_goals (refine bodyPost_ret (results_ct rfl _ _ gb128 24 #[.int .i64 0, .int .i64 0, .slice none 0 0] (0, 0) _ rfl (bko gb128 (by rfl)) Tryd.underlying24 rfl (by kernel_rfl)) rfl ?_; exact ⟨_, by first | rfl | (simp [errW_none, errW_some] <;> rfl) | (simp [*, errW_none, errW_some] <;> rfl), by first | exact Kd.R_nil _ _ _ _ _ | exact Kd.N_nil _ _ _ _ _ | exact Kd.V_nil _ _ _ _ _ | exact Kd.Q_nil _ _ _ _ _ | exact Kd.S_nil _ _ _ _ _, bw w⟩)
   ·
    rw [if_neg c7] at H
    have c7b0 : ((l0_2.length : Int) == 64) = false := beq_eq_false_iff_ne.mpr c7
    have c7b1 : ((l0_2.length : Int) != 64) = true := bne_iff_ne.mpr c7
    have HC20 := Aside0.mk (H)
    clear H
    go_enter Tryd.func16, Tryd.ntmps16
    go_upto_region 9 with (first | ((with_reducible refine gate_dst (N := 2) rfl ?_); refine bxE 2 24 #[.int .i64 a0_0, .int .i64 a0_1, .slice A0_2 l0_2.length c0_2] (by rfl) (by rfl) (by first | (go_simp; done) | (go_simp; rfl)) ?_; intro gb126 hg w21 hbox hb; have BK126 := Bk.mk (hbox); have GE126 := eB w hg; replace HB := bS w hb; clear hb hbox hg) | ((with_reducible refine gate_dst (N := 3) rfl ?_); refine bxE 3 26 #[.int .i64 a1_0, .int .i64 a1_1, .int .i64 a1_2, .int .i64 a1_3] (by rfl) (by rfl) (by first | (go_simp; done) | (go_simp; rfl)) ?_; intro gb127 hg w22 hbox hb; have BK127 := Bk.mk (hbox); have GE127 := eB w hg; have NB126_127 := nB gb126 hg; replace BK126 := kB gb126 hb; replace HB := bS w hb; clear hb hbox hg) | ((with_reducible refine gate_dst (N := 4) rfl ?_); refine bxE 4 24 #[.int .i64 0, .int .i64 0, .slice none 0 0] (by rfl) (by rfl) (by first | (go_simp; done) | (go_simp; rfl)) ?_; intro gb128 hg w23 hbox hb; have BK128 := Bk.mk (hbox); have GE128 := eB w hg; have NB126_128 := nB gb126 hg; have NB127_128 := nB gb127 hg; replace BK126 := kB gb126 hb; replace BK127 := kB gb127 hb; replace HB := bS w hb; clear hb hbox hg; obtain ⟨hnb24, hnc24⟩ := nn NB126_127; obtain ⟨hnb25, hnc25⟩ := nn NB126_128; obtain ⟨hcz26_0, hcz26_1, hcz26_2, hfz26_0, hfz26_1, hfz26_2⟩ := cz3 BK126) | ((with_reducible refine gate_callee (f := 20) rfl ?_); refine goesLM (some 11) rfl rfl Tryd.func20 (by kernel_rfl) rfl #[.agg #[.int .i64 a0_0, .int .i64 a0_1, .slice A0_2 l0_2.length c0_2]] rfl (by rfl) ?_; (with_reducible refine (course_CheckScale.calls k a0_0 a0_1 _ _ l0_2 t129 _ ?side1 ?side2 A3.out).mono ?_); (case side1 => exact cP (Kd.C_below HR0_2.out HB.out)); (case side2 => exact HC0_2.out); rintro e w27 ⟨rfl, hb⟩; refine ⟨_, rfl, ?_⟩; replace BK126 := kB gb126 hb; replace BK127 := kB gb127 hb; replace BK128 := kB gb128 hb; replace HB := bS w hb; (try clear hb); obtain ⟨hnb28, hnc28⟩ := nn NB127_128; obtain ⟨hcz29_0, hcz29_1, hcz29_2, hcz29_3, hfz29_0, hfz29_1, hfz29_2, hfz29_3⟩ := cz4 BK127) | ((with_reducible refine gate_callee (f := 18) rfl ?_); refine goesLM (some 17) rfl rfl Tryd.func18 (by kernel_rfl) rfl #[.agg #[.int .i64 a1_0, .int .i64 a1_1, .int .i64 a1_2, .int .i64 a1_3]] rfl (by rfl) ?_; (with_reducible refine (course_CheckTest.calls a1_0 a1_1 a1_2 a1_3 t130 _ A5.out).mono ?_); rintro e w30 ⟨rfl, hb⟩; refine ⟨_, rfl, ?_⟩; replace BK126 := kB gb126 hb; replace BK127 := kB gb127 hb; replace BK128 := kB gb128 hb; replace HB := bS w hb; (try clear hb); obtain ⟨hcz31_0, hcz31_1, hcz31_2, hfz31_0, hfz31_1, hfz31_2⟩ := cz3 BK126))
    (try simp only [Act.put, List.setIfInBounds_toArray, List.set_cons_zero, List.set_cons_succ])
    go_cut [39] (fun v39 wc => ∃ (kq : Nat) (x39_19 : Bool), v39 = .bool x39_19 ∧ Aside0 (course_AddTest.j0 kq (l0_2.length : Int) x39_19 a0_0 a0_1 l0_2 a1_0 a1_1 a1_2 a1_3 = some (r1, r2, r3, r4)) ∧ Aside0 (kq ≤ k) ∧ Bk wc gb126 (.cells #[.int .i64 a0_0, .int .i64 a0_1, (.slice A0_2 l0_2.length c0_2)] 24 (0, 0)) ∧ Bk wc gb127 (.cells #[.int .i64 a1_0, .int .i64 a1_1, .int .i64 a1_2, .int .i64 a1_3] 26 (0, 0)) ∧ Bk wc gb128 (.cells #[.int .i64 0, .int .i64 0, (.slice none 0 0)] 24 (0, 0)) ∧ Bw w wc)
    case first =>
     have H := HC20.out
     clear HC20
     by_cases c32 : (l0_2.length : Int) > 0
     ·
      rw [if_pos c32] at H
      have c32b0 : decide (0 < (l0_2.length : Int)) = true := decide_eq_true c32
      have c32b1 : decide (0 < l0_2.length) = true := decide_eq_true (by omega)
      clear c32
      (first | rw [c32b0] | (simp only [i64_w]; rw [c32b0]) | skip)
      obtain ⟨ji33, hji33⟩ : ∃ j_ : Int, (wrap64 ((l0_2.length : Int) - 1)) = j_ := ⟨_, rfl⟩
      replace H : (if 0 ≤ (ji33) then (if (ji33) < (l0_2.length : Int) then (course_AddTest.j0 k (l0_2.length : Int) (decide (a1_1 < ((rd_T26 l0_2 (ji33)).f1))) a0_0 a0_1 l0_2 a1_0 a1_1 a1_2 a1_3) else (none)) else (none)) = some (r1, r2, r3, r4) := by first | (rw [hji33] at H; exact H) | (simp only [hji33] at H ⊢; exact H)
      have hji33w : (IntKind.i64.wrap ((l0_2.length : Int) - 1)) = ji33 := (i64_w _).trans hji33
      by_cases c34 : 0 ≤ (ji33)
      ·
       rw [if_pos c34] at H
       have c34b0 : decide (0 ≤ (ji33)) = true := decide_eq_true c34
       clear c34
       by_cases c35 : (ji33) < (l0_2.length : Int)
       ·
        rw [if_pos c35] at H
        have c35b0 : decide ((ji33) < (l0_2.length : Int)) = true := decide_eq_true c35
        clear c35
        have H' := Aside0.mk H
        clear H
        try go_wp2
        have n0_ := Bk.mk (blk_drew BK126.out)
        have n1_ := Bk.mk (blk_drew BK127.out)
        have n2_ := Bk.mk (blk_drew BK128.out)
        have n3_ := Bw.mk (below_drew1 HB.out)
        clear BK126 BK127 BK128 HB
        have BK126 := n0_
        have BK127 := n1_
        have BK128 := n2_
        have HB := n3_
        clear n0_ n1_ n2_ n3_
        have p131 : 0 ≤ ((ji33) : Int) := of_decide_eq_true (by first | (with_reducible assumption) | assumption)
        have q131 : (ji33) < (l0_2.length : Int) := of_decide_eq_true (by first | (with_reducible assumption) | assumption)
        obtain ⟨ad131, e131, hx131_0, hx131_1, hx131_2, hx131_3⟩ := at_T26 HR0_2.out (ji33) p131 q131
        have hw131_3 := hx131_3
        have hw131_2 := hx131_2
        have hw131_1 := hx131_1
        have hw131_0 := hx131_0
        cases e131
        replace hx131_0 := cB HB hx131_0
        replace hx131_1 := cB HB hx131_1
        replace hx131_2 := cB HB hx131_2
        replace hx131_3 := cB HB hx131_3
        replace p131 := eq_true p131
        replace q131 := eq_true q131
        refine start_ (n := 14) (S := fun w' => w'.cell? ⟨gb127, 0, none⟩ = some (.int .i64 a1_0) ∧ w'.cell? ⟨gb127, 1, none⟩ = some (.int .i64 a1_1) ∧ w'.cell? ⟨gb127, 2, none⟩ = some (.int .i64 a1_2) ∧ w'.cell? ⟨gb127, 3, none⟩ = some (.int .i64 a1_3) ∧ w'.cell? ⟨gb126, 0, none⟩ = some (.int .i64 a0_0) ∧ w'.cell? ⟨gb126, 1, none⟩ = some (.int .i64 a0_1) ∧ w'.cell? ⟨gb126, 2, none⟩ = some (.slice (some ad131) l0_2.length c0_2) ∧ w'.cell? (ad131.add (((ji33)).toNat * 4)) = some (.int .i64 ((rd_T26 l0_2 (ji33)).f0)) ∧ w'.cell? ⟨(ad131.add (((ji33)).toNat * 4)).block, (ad131.add (((ji33)).toNat * 4)).off + 1, none⟩ = some (.int .i64 ((rd_T26 l0_2 (ji33)).f1)) ∧ w'.cell? ⟨(ad131.add (((ji33)).toNat * 4)).block, (ad131.add (((ji33)).toNat * 4)).off + 2, none⟩ = some (.int .i64 ((rd_T26 l0_2 (ji33)).f2)) ∧ w'.cell? ⟨(ad131.add (((ji33)).toNat * 4)).block, (ad131.add (((ji33)).toNat * 4)).off + 3, none⟩ = some (.int .i64 ((rd_T26 l0_2 (ji33)).f3))) (ds := []) #[false, false, false, false, false, false, false, false, false, false, false, false, false, false] (by kernel_rfl) rfl rfl ⟨bc BK127 0, bc BK127 1, bc BK127 2, bc BK127 3, bc BK126 0, bc BK126 1, bc BK126 2, ((HB.out.cell (World.block_lt_of_cell? w _ hw131_0)).trans hw131_0), ((HB.out.cell (World.block_lt_of_cell? w _ hw131_1)).trans hw131_1), ((HB.out.cell (World.block_lt_of_cell? w _ hw131_2)).trans hw131_2), ((HB.out.cell (World.block_lt_of_cell? w _ hw131_3)).trans hw131_3)⟩ (fun hHeld => ?_); refine with_tabW course_AddTest.tab9 course_AddTest.bits9 (fun HT_ HW_ => ?_)
        generalize w30.drew = w36 at BK126 BK127 BK128 HB hx131_0 hx131_1 hx131_2 hx131_3 hHeld ⊢
        refine pS 0 (some 26) rfl rfl (any_of HT_.out (by kernel_rfl)) (fun _ _ _ h => h) (by rfl) (fun w' => by go_simp; with_reducible rfl) (by simp only [Act.put, List.setIfInBounds_toArray, List.set_cons_zero, List.set_cons_succ, i64_w]; rfl) ?_
        refine pS 1 (some 27) rfl rfl (any_of HT_.out (by kernel_rfl)) (fun _ _ _ h => h) (by rfl) (fun w' => by go_simp; with_reducible rfl) (by simp only [Act.put, List.setIfInBounds_toArray, List.set_cons_zero, List.set_cons_succ, i64_w]; rfl) ?_
        refine pS 2 (some 28) rfl rfl (any_of HT_.out (by kernel_rfl)) (fun _ _ _ h => h) (by rfl) (fun w' => by go_simp; with_reducible rfl) (by simp only [Act.put, List.setIfInBounds_toArray, List.set_cons_zero, List.set_cons_succ, i64_w]; rfl) ?_
        refine pS 3 (some 29) rfl rfl (any_of HT_.out (by kernel_rfl)) (fun _ _ _ h => h) (by rfl) (fun w' => by go_simp; with_reducible rfl) (by simp only [Act.put, List.setIfInBounds_toArray, List.set_cons_zero, List.set_cons_succ, i64_w]; rfl) ?_
        refine pS 5 (some 31) rfl rfl (any_of HT_.out (by kernel_rfl)) (fun _ _ _ h => h) (by rfl) (fun w' => by go_simp; with_reducible rfl) (by simp only [Act.put, List.setIfInBounds_toArray, List.set_cons_zero, List.set_cons_succ, i64_w]; rfl) ?_
        refine pS 7 (some 33) rfl rfl (any_of HT_.out (by kernel_rfl)) (fun _ _ _ h => h) (by rfl) (fun w' => by go_simp; with_reducible rfl) (by simp only [Act.put, List.setIfInBounds_toArray, List.set_cons_zero, List.set_cons_succ, i64_w]; rfl) ?_
        refine pS 8 (some 34) rfl rfl (any_of HT_.out (by kernel_rfl)) (fun _ _ _ h => h) (by rfl) (fun w' => by go_simp; with_reducible rfl) (by simp only [Act.put, List.setIfInBounds_toArray, List.set_cons_zero, List.set_cons_succ, i64_w]; rfl) ?_
        refine tS 4 (some 30) rfl rfl (take_ofW HT_.out HW_.out (by kernel_rfl)) (fun _ _ _ h => h) (by rfl) (by rintro w' ⟨s0, s1, s2, s3, s4, s5, s6, s7, s8, s9, s10⟩; go_simp; with_reducible rfl) hHeld (by simp only [Act.put, List.setIfInBounds_toArray, List.set_cons_zero, List.set_cons_succ, i64_w]; rfl) ?_
        refine tS 6 (some 32) rfl rfl (take_ofW HT_.out HW_.out (by kernel_rfl)) (fun _ _ _ h => h) (by rfl) (by rintro w' ⟨s0, s1, s2, s3, s4, s5, s6, s7, s8, s9, s10⟩; go_simp; with_reducible rfl) hHeld (by simp only [Act.put, List.setIfInBounds_toArray, List.set_cons_zero, List.set_cons_succ, i64_w]; rfl) ?_
        refine pS 9 (some 35) rfl rfl (any_of HT_.out (by kernel_rfl)) (fun _ _ _ h => h) (by rfl) (fun w' => by go_simp; with_reducible rfl) (by simp only [Act.put, List.setIfInBounds_toArray, List.set_cons_zero, List.set_cons_succ, i64_w]; rfl) ?_
        refine pS 10 (some 36) rfl rfl (any_of HT_.out (by kernel_rfl)) (fun _ _ _ h => h) (by rfl) (fun w' => by go_simp; with_reducible rfl) (by simp only [Act.put, List.setIfInBounds_toArray, List.set_cons_zero, List.set_cons_succ, i64_w]; rfl) ?_
        refine tS 11 (some 37) rfl rfl (take_ofW HT_.out HW_.out (by kernel_rfl)) (fun _ _ _ h => h) (by rfl) (by rintro w' ⟨s0, s1, s2, s3, s4, s5, s6, s7, s8, s9, s10⟩; go_simp; with_reducible rfl) hHeld (by simp only [Act.put, List.setIfInBounds_toArray, List.set_cons_zero, List.set_cons_succ, i64_w]; rfl) ?_
        refine pS 12 (some 38) rfl rfl (any_of HT_.out (by kernel_rfl)) (fun _ _ _ h => h) (by rfl) (fun w' => by go_simp; with_reducible rfl) (by simp only [Act.put, List.setIfInBounds_toArray, List.set_cons_zero, List.set_cons_succ, i64_w]; rfl) ?_
        refine pS 13 (some 39) rfl rfl (any_of HT_.out (by kernel_rfl)) (fun _ _ _ h => h) (by rfl) (fun w' => by go_simp; with_reducible rfl) (by simp only [Act.put, List.setIfInBounds_toArray, List.set_cons_zero, List.set_cons_succ, i64_w]; rfl) ?_
        refine done_ (done_of HT_.out (by kernel_rfl)) ?_
        try go_wp2
        go_meet
        case rel => exact ⟨_, (decide (a1_1 < ((rd_T26 l0_2 (ji33)).f1))), (by first | rfl | (simp; done) | (simp only [← hji33] <;> (first | rfl | simp)) | (simp [*]; done)), H', ⟨by first | omega | exact Nat.le_refl _⟩, inferInstance, inferInstance, inferInstance, inferInstance⟩
       ·
        rw [if_neg c35] at H
        exact absurd H (by simp)
      ·
       rw [if_neg c34] at H
       exact absurd H (by simp)
     ·
      rw [if_neg c32] at H
      have c32b0 : decide (0 < (l0_2.length : Int)) = false := decide_eq_false c32
      have c32b1 : decide (0 < l0_2.length) = false := decide_eq_false (by omega)
      clear c32
      (first | rw [c32b0] | (simp only [i64_w]; rw [c32b0]) | skip)
      have H' := Aside0.mk H
      clear H
      try go_wp2
      have n0_ := Bk.mk (blk_drew BK126.out)
      have n1_ := Bk.mk (blk_drew BK127.out)
      have n2_ := Bk.mk (blk_drew BK128.out)
      have n3_ := Bw.mk (below_drew1 HB.out)
      clear BK126 BK127 BK128 HB
      have BK126 := n0_
      have BK127 := n1_
      have BK128 := n2_
      have HB := n3_
      clear n0_ n1_ n2_ n3_
      refine start_ (n := 14) (S := fun w' => True) (ds := []) #[false, false, false, false, false, false, false, false, false, false, false, false, false, false] (by kernel_rfl) rfl rfl trivial (fun hHeld => ?_); refine with_tabW course_AddTest.tab9 course_AddTest.bits9 (fun HT_ HW_ => ?_)
      generalize w30.drew = w37 at BK126 BK127 BK128 HB hHeld ⊢
      refine pS 0 (some 26) rfl rfl (any_of HT_.out (by kernel_rfl)) (fun _ _ _ h => h) (by rfl) (fun w' => by go_simp; with_reducible rfl) (by simp only [Act.put, List.setIfInBounds_toArray, List.set_cons_zero, List.set_cons_succ, i64_w]; rfl) ?_
      refine pS 1 (some 27) rfl rfl (any_of HT_.out (by kernel_rfl)) (fun _ _ _ h => h) (by rfl) (fun w' => by go_simp; with_reducible rfl) (by simp only [Act.put, List.setIfInBounds_toArray, List.set_cons_zero, List.set_cons_succ, i64_w]; rfl) ?_
      refine pS 2 (some 28) rfl rfl (any_of HT_.out (by kernel_rfl)) (fun _ _ _ h => h) (by rfl) (fun w' => by go_simp; with_reducible rfl) (by simp only [Act.put, List.setIfInBounds_toArray, List.set_cons_zero, List.set_cons_succ, i64_w]; rfl) ?_
      refine pU 3 (some 29) rfl rfl (any_of HT_.out (by kernel_rfl)) (fun _ _ _ h => h) (by rfl) (by simp only [Act.put, List.setIfInBounds_toArray, List.set_cons_zero, List.set_cons_succ, i64_w]; rfl) ?_
      refine pU 4 (some 30) rfl rfl (any_of HT_.out (by kernel_rfl)) (fun _ _ _ h => h) (by rfl) (by simp only [Act.put, List.setIfInBounds_toArray, List.set_cons_zero, List.set_cons_succ, i64_w]; rfl) ?_
      refine pU 5 (some 31) rfl rfl (any_of HT_.out (by kernel_rfl)) (fun _ _ _ h => h) (by rfl) (by simp only [Act.put, List.setIfInBounds_toArray, List.set_cons_zero, List.set_cons_succ, i64_w]; rfl) ?_
      refine pU 6 (some 32) rfl rfl (any_of HT_.out (by kernel_rfl)) (fun _ _ _ h => h) (by rfl) (by simp only [Act.put, List.setIfInBounds_toArray, List.set_cons_zero, List.set_cons_succ, i64_w]; rfl) ?_
      refine pU 7 (some 33) rfl rfl (any_of HT_.out (by kernel_rfl)) (fun _ _ _ h => h) (by rfl) (by simp only [Act.put, List.setIfInBounds_toArray, List.set_cons_zero, List.set_cons_succ, i64_w]; rfl) ?_
      refine pU 8 (some 34) rfl rfl (any_of HT_.out (by kernel_rfl)) (fun _ _ _ h => h) (by rfl) (by simp only [Act.put, List.setIfInBounds_toArray, List.set_cons_zero, List.set_cons_succ, i64_w]; rfl) ?_
      refine pU 9 (some 35) rfl rfl (any_of HT_.out (by kernel_rfl)) (fun _ _ _ h => h) (by rfl) (by simp only [Act.put, List.setIfInBounds_toArray, List.set_cons_zero, List.set_cons_succ, i64_w]; rfl) ?_
      refine pU 10 (some 36) rfl rfl (any_of HT_.out (by kernel_rfl)) (fun _ _ _ h => h) (by rfl) (by simp only [Act.put, List.setIfInBounds_toArray, List.set_cons_zero, List.set_cons_succ, i64_w]; rfl) ?_
      refine pU 11 (some 37) rfl rfl (any_of HT_.out (by kernel_rfl)) (fun _ _ _ h => h) (by rfl) (by simp only [Act.put, List.setIfInBounds_toArray, List.set_cons_zero, List.set_cons_succ, i64_w]; rfl) ?_
      refine pU 12 (some 38) rfl rfl (any_of HT_.out (by kernel_rfl)) (fun _ _ _ h => h) (by rfl) (by simp only [Act.put, List.setIfInBounds_toArray, List.set_cons_zero, List.set_cons_succ, i64_w]; rfl) ?_
      refine pS 13 (some 39) rfl rfl (any_of HT_.out (by kernel_rfl)) (fun _ _ _ h => h) (by rfl) (fun w' => by go_simp; with_reducible rfl) (by simp only [Act.put, List.setIfInBounds_toArray, List.set_cons_zero, List.set_cons_succ, i64_w]; rfl) ?_
      refine done_ (done_of HT_.out (by kernel_rfl)) ?_
      try go_wp2
      go_meet
      case rel => exact ⟨_, (false), (by first | rfl | (simp; done) | (simp [*]; done)), H', ⟨by first | omega | exact Nat.le_refl _⟩, inferInstance, inferInstance, inferInstance, inferInstance⟩
    case rest =>
     clear HC20
     try clear c1
     try clear p1
     try clear q1
     try clear hx1
     try clear c2
     try clear p2
     try clear c3
     try clear c4
     try clear c4b0
     try clear c4b1
     try clear c6
     try clear c6b0
     try clear c6b1
     try clear p6
     try clear c7
     try clear c7b0
     try clear c7b1
     try clear c11
     try clear c12
     try clear p13
     try clear q13
     try clear hx13
     try clear c15
     try clear c16
     try clear c18
     try clear c20
     try clear c24
     try clear c25
     try clear c28
     try clear c32
     try clear c32b0
     try clear c32b1
     try clear c34
     try clear c34b0
     try clear c35
     try clear c35b0
     try clear hx131_0
     try clear hx131_1
     try clear hx131_2
     try clear hx131_3
     try clear p131
     try clear q131
     obtain ⟨kq, x39_19, rfl, HA, HJ19, BK126, BK127, BK128, HB⟩ := hcut
     cases kq with
     | zero => exact absurd HA.out (by simp [course_AddTest.j0])
     | succ kj19 =>
      have H := HA.out
      clear HA
      simp only [course_AddTest.j0] at H
      by_cases c38 : x39_19 = true
      ·
       subst c38
       rw [if_pos rfl] at H
       simp only [Option.some.injEq, Prod.mk.injEq] at H
       obtain ⟨rfl, rfl, rfl, rfl⟩ := H
       obtain ⟨hnc39, hnb39⟩ := nn NB126_128
       obtain ⟨hnc40, hnb40⟩ := nn NB127_128
       obtain ⟨hcz41_0, hcz41_1, hcz41_2, hfz41_0, hfz41_1, hfz41_2⟩ := cz3 BK128
       go_wp2
       all_goals (refine bodyPost_ret (results_ct rfl _ _ gb128 24 #[.int .i64 0, .int .i64 0, .slice none 0 0] (0, 0) _ rfl (bko gb128 (by rfl)) Tryd.underlying24 rfl (by kernel_rfl)) rfl ?_; exact ⟨_, by first | rfl | (simp [errW_none, errW_some] <;> rfl) | (simp [*, errW_none, errW_some] <;> rfl), by first | exact Kd.R_nil _ _ _ _ _ | exact Kd.N_nil _ _ _ _ _ | exact Kd.V_nil _ _ _ _ _ | exact Kd.Q_nil _ _ _ _ _ | exact Kd.S_nil _ _ _ _ _, bw w⟩)
      ·
       replace c38 := Bool.eq_false_iff.mpr c38
       subst c38
       rw [if_neg (show ¬ (false = true) by decide)] at H
       have H' := Aside0.mk H
       clear H
       obtain ⟨hnb42, hnc42⟩ := nn NB126_127
       obtain ⟨hnb43, hnc43⟩ := nn NB126_128
       obtain ⟨hcz44_0, hcz44_1, hcz44_2, hfz44_0, hfz44_1, hfz44_2⟩ := cz3 BK126
       go_wp2
       go_loopg [44] kj19 (fun kq v44 w' => ∃ (x44_2 : Int) (x129000_2 : Int) (x129001_2 : Int), v44 = .int .i64 x44_2 ∧ Aside0 (course_AddTest.l0 kq (l0_2.length : Int) l0_2 (l0_2.length : Int) x44_2 a0_0 a0_1 l0_2 a1_0 a1_1 a1_2 a1_3 = some (r1, r2, r3, r4)) ∧ Aside0 (kq ≤ kj19) ∧ Bk w' gb126 (.cells #[.int .i64 a0_0, .int .i64 a0_1, (.slice A0_2 l0_2.length c0_2)] 24 (0, 0)) ∧ Bk w' gb127 (.cells #[.int .i64 a1_0, .int .i64 a1_1, .int .i64 a1_2, .int .i64 a1_3] 26 (0, 0)) ∧ Bk w' gb128 (.cells #[.int .i64 x129000_2, .int .i64 x129001_2, (.slice none 0 0)] 24 (0, 0)) ∧ Bw w w')
       case atStart => exact ⟨(0), (0), (0), (by first | rfl | (simp; done) | (simp [*]; done)), H', ⟨Nat.le_refl _⟩, inferInstance, inferInstance, inferInstance, inferInstance⟩
       case round =>
        clear H'
        try clear c1
        try clear p1
        try clear q1
        try clear hx1
        try clear c2
        try clear p2
        try clear c3
        try clear c4
        try clear c4b0
        try clear c4b1
        try clear c6
        try clear c6b0
        try clear c6b1
        try clear p6
        try clear c7
        try clear c7b0
        try clear c7b1
        try clear c11
        try clear c12
        try clear p13
        try clear q13
        try clear hx13
        try clear c15
        try clear c16
        try clear c18
        try clear c20
        try clear c24
        try clear c25
        try clear c28
        try clear c32
        try clear c32b0
        try clear c32b1
        try clear c34
        try clear c34b0
        try clear c35
        try clear c35b0
        try clear c38
        try clear c39
        try clear c40
        try clear c42
        try clear c43
        try clear hx131_0
        try clear hx131_1
        try clear hx131_2
        try clear hx131_3
        try clear p1
        try clear p13
        try clear p131
        try clear p2
        try clear p6
        try clear q1
        try clear q13
        try clear q131
        obtain ⟨x44_2, x129000_2, x129001_2, rfl, HA, HK2, BK126, BK127, BK128, HB⟩ := hrel
        cases gk with
        | zero => exact absurd HA.out (by simp [course_AddTest.l0])
        | succ k2 =>
         have H := HA.out
         clear HA
         simp only [course_AddTest.l0] at H
         by_cases c45 : x44_2 < (l0_2.length : Int)
         ·
          rw [if_pos c45] at H
          have c45b0 : decide (x44_2 < (l0_2.length : Int)) = true := decide_eq_true c45
          clear c45
          by_cases c46 : 0 ≤ x44_2
          ·
           rw [if_pos c46] at H
           have c46b0 : decide (0 ≤ x44_2) = true := decide_eq_true c46
           clear c46
           by_cases c47 : x44_2 < (l0_2.length : Int)
           ·
            rw [if_pos c47] at H
            have c47b0 : decide (x44_2 < (l0_2.length : Int)) = true := decide_eq_true c47
            clear c47
            replace H := Option.bind_eq_some_iff.mp H
            obtain ⟨t134, A480, H⟩ := H
            have A48 := Aside0.mk (A480)
            clear A480
            by_cases c49 : t134 = true
            ·
             subst c49
             rw [if_pos rfl] at H
             simp only [Option.some.injEq, Prod.mk.injEq] at H
             obtain ⟨rfl, rfl, rfl, rfl⟩ := H
             have p132 : 0 ≤ (x44_2 : Int) := of_decide_eq_true (by first | (with_reducible assumption) | assumption)
             have q132 : x44_2 < (l0_2.length : Int) := of_decide_eq_true (by first | (with_reducible assumption) | assumption)
             obtain ⟨ad132, e132, hx132_0, hx132_1, hx132_2, hx132_3⟩ := at_T26 HR0_2.out x44_2 p132 q132
             cases e132
             replace hx132_0 := cB HB hx132_0
             replace hx132_1 := cB HB hx132_1
             replace hx132_2 := cB HB hx132_2
             replace hx132_3 := cB HB hx132_3
             replace p132 := eq_true p132
             replace q132 := eq_true q132
             go_wp2_with (first | ((with_reducible refine gate_dst (N := 9) rfl ?_); refine bxE 9 26 #[.int .i64 0, .int .i64 0, .int .i64 0, .int .i64 0] (by rfl) (by rfl) (by first | (go_simp; done) | (go_simp; rfl)) ?_; intro gb133 hg w50 hbox hb; have BK133 := Bk.mk (hbox); have GE133 := eB w hg; have NB126_133 := nB gb126 hg; have NB127_133 := nB gb127 hg; have NB128_133 := nB gb128 hg; replace BK126 := kB gb126 hb; replace BK127 := kB gb127 hb; replace BK128 := kB gb128 hb; replace HB := bS w hb; clear hb hbox hg; obtain ⟨hnc51, hnb51⟩ := nn NB126_133; obtain ⟨hnc52, hnb52⟩ := nn NB127_133; obtain ⟨hnc53, hnb53⟩ := nn NB128_133; obtain ⟨hcz54_0, hcz54_1, hcz54_2, hcz54_3, hfz54_0, hfz54_1, hfz54_2, hfz54_3⟩ := cz4 BK133; obtain ⟨hnb55, hnc55⟩ := nn NB126_127; obtain ⟨hnb56, hnc56⟩ := nn NB126_128; obtain ⟨hcz57_0, hcz57_1, hcz57_2, hfz57_0, hfz57_1, hfz57_2⟩ := cz3 BK126; obtain ⟨hnb58, hnc58⟩ := nn NB127_128; obtain ⟨hcz59_0, hcz59_1, hcz59_2, hcz59_3, hfz59_0, hfz59_1, hfz59_2, hfz59_3⟩ := cz4 BK127) | ((with_reducible refine gate_callee (f := 70) rfl ?_); refine goesLM (some 52) rfl rfl Tryd.func70 (by kernel_rfl) rfl #[.int .i64 a0_1, .agg #[.int .i64 a1_0, .int .i64 a1_1, .int .i64 a1_2, .int .i64 a1_3], .agg #[.int .i64 ((rd_T26 l0_2 x44_2).f0), .int .i64 ((rd_T26 l0_2 x44_2).f1), .int .i64 ((rd_T26 l0_2 x44_2).f2), .int .i64 ((rd_T26 l0_2 x44_2).f3)]] rfl (by rfl) ?_; (with_reducible refine (course_contradict.calls a0_1 a1_0 a1_1 a1_2 a1_3 ((rd_T26 l0_2 x44_2).f0) ((rd_T26 l0_2 x44_2).f1) ((rd_T26 l0_2 x44_2).f2) ((rd_T26 l0_2 x44_2).f3) true _ A48.out).mono ?_); rintro e w60 ⟨rfl, hb⟩; refine ⟨_, rfl, ?_⟩; replace BK126 := kB gb126 hb; replace BK127 := kB gb127 hb; replace BK128 := kB gb128 hb; replace BK133 := kBo gb133 (.cells #[.int .i64 ((rd_T26 l0_2 x44_2).f0), .int .i64 ((rd_T26 l0_2 x44_2).f1), .int .i64 ((rd_T26 l0_2 x44_2).f2), .int .i64 ((rd_T26 l0_2 x44_2).f3)] 26 (0, 0)) hb (by rfl); replace HB := bS w hb; (try clear hb); obtain ⟨hcz61_0, hcz61_1, hcz61_2, hfz61_0, hfz61_1, hfz61_2⟩ := cz3 BK128))
             all_goals (refine bodyPost_ret (results_ct rfl _ _ gb128 24 #[.int .i64 0, .int .i64 0, .slice none 0 0] (0, 0) _ rfl (bko gb128 (by rfl)) Tryd.underlying24 rfl (by kernel_rfl)) rfl ?_; exact ⟨_, by first | rfl | (simp [errW_none, errW_some] <;> rfl) | (simp [*, errW_none, errW_some] <;> rfl), by first | exact Kd.R_nil _ _ _ _ _ | exact Kd.N_nil _ _ _ _ _ | exact Kd.V_nil _ _ _ _ _ | exact Kd.Q_nil _ _ _ _ _ | exact Kd.S_nil _ _ _ _ _, bw w⟩)
            ·
             replace c49 := Bool.eq_false_iff.mpr c49
             subst c49
             rw [if_neg (show ¬ (false = true) by decide)] at H
             have H' := Aside0.mk H
             clear H
             have p132 : 0 ≤ (x44_2 : Int) := of_decide_eq_true (by first | (with_reducible assumption) | assumption)
             have q132 : x44_2 < (l0_2.length : Int) := of_decide_eq_true (by first | (with_reducible assumption) | assumption)
             obtain ⟨ad132, e132, hx132_0, hx132_1, hx132_2, hx132_3⟩ := at_T26 HR0_2.out x44_2 p132 q132
             cases e132
             replace hx132_0 := cB HB hx132_0
             replace hx132_1 := cB HB hx132_1
             replace hx132_2 := cB HB hx132_2
             replace hx132_3 := cB HB hx132_3
             replace p132 := eq_true p132
             replace q132 := eq_true q132
             go_wp2_with (first | ((with_reducible refine gate_dst (N := 9) rfl ?_); refine bxE 9 26 #[.int .i64 0, .int .i64 0, .int .i64 0, .int .i64 0] (by rfl) (by rfl) (by first | (go_simp; done) | (go_simp; rfl)) ?_; intro gb133 hg w62 hbox hb; have BK133 := Bk.mk (hbox); have GE133 := eB w hg; have NB126_133 := nB gb126 hg; have NB127_133 := nB gb127 hg; have NB128_133 := nB gb128 hg; replace BK126 := kB gb126 hb; replace BK127 := kB gb127 hb; replace BK128 := kB gb128 hb; replace HB := bS w hb; clear hb hbox hg; obtain ⟨hnc63, hnb63⟩ := nn NB126_133; obtain ⟨hnc64, hnb64⟩ := nn NB127_133; obtain ⟨hnc65, hnb65⟩ := nn NB128_133; obtain ⟨hcz66_0, hcz66_1, hcz66_2, hcz66_3, hfz66_0, hfz66_1, hfz66_2, hfz66_3⟩ := cz4 BK133; obtain ⟨hnb67, hnc67⟩ := nn NB126_127; obtain ⟨hnb68, hnc68⟩ := nn NB126_128; obtain ⟨hcz69_0, hcz69_1, hcz69_2, hfz69_0, hfz69_1, hfz69_2⟩ := cz3 BK126; obtain ⟨hnb70, hnc70⟩ := nn NB127_128; obtain ⟨hcz71_0, hcz71_1, hcz71_2, hcz71_3, hfz71_0, hfz71_1, hfz71_2, hfz71_3⟩ := cz4 BK127) | ((with_reducible refine gate_callee (f := 70) rfl ?_); refine goesLM (some 52) rfl rfl Tryd.func70 (by kernel_rfl) rfl #[.int .i64 a0_1, .agg #[.int .i64 a1_0, .int .i64 a1_1, .int .i64 a1_2, .int .i64 a1_3], .agg #[.int .i64 ((rd_T26 l0_2 x44_2).f0), .int .i64 ((rd_T26 l0_2 x44_2).f1), .int .i64 ((rd_T26 l0_2 x44_2).f2), .int .i64 ((rd_T26 l0_2 x44_2).f3)]] rfl (by rfl) ?_; (with_reducible refine (course_contradict.calls a0_1 a1_0 a1_1 a1_2 a1_3 ((rd_T26 l0_2 x44_2).f0) ((rd_T26 l0_2 x44_2).f1) ((rd_T26 l0_2 x44_2).f2) ((rd_T26 l0_2 x44_2).f3) false _ A48.out).mono ?_); rintro e w72 ⟨rfl, hb⟩; refine ⟨_, rfl, ?_⟩; replace BK126 := kB gb126 hb; replace BK127 := kB gb127 hb; replace BK128 := kB gb128 hb; replace BK133 := kBo gb133 (.cells #[.int .i64 ((rd_T26 l0_2 x44_2).f0), .int .i64 ((rd_T26 l0_2 x44_2).f1), .int .i64 ((rd_T26 l0_2 x44_2).f2), .int .i64 ((rd_T26 l0_2 x44_2).f3)] 26 (0, 0)) hb (by rfl); replace HB := bS w hb; (try clear hb)))
             go_roundg k2
             case measure => have := HJ19.out; have := HK2.out; omega
             case rel => exact ⟨(wrap64 (x44_2 + 1)), (x129000_2), (x129001_2), (by first | rfl | (simp; done) | (simp [*]; done)), H', ⟨by have := HJ19.out; have := HK2.out; omega⟩, inferInstance, inferInstance, inferInstance, inferInstance⟩
           ·
            rw [if_neg c47] at H
            exact absurd H (by simp)
          ·
           rw [if_neg c46] at H
           exact absurd H (by simp)
         ·
          rw [if_neg c45] at H
          have c45b0 : decide (x44_2 < (l0_2.length : Int)) = false := decide_eq_false c45
          clear c45
          by_cases c73 : (l0_2.length : Int) ≤ (l0_2.length : Int)
          ·
           rw [if_pos c73] at H
           have c73b0 := eq_true c73
           have c73b1 : decide ((l0_2.length : Int) ≤ (l0_2.length : Int)) = true := decide_eq_true c73
           clear c73
           by_cases c74 : (l0_2.length : Int) ≤ (l0_2.length : Int)
           ·
            rw [if_pos c74] at H
            have c74b0 := eq_true c74
            have c74b1 : decide ((l0_2.length : Int) ≤ (l0_2.length : Int)) = true := decide_eq_true c74
            clear c74
            by_cases c75 : l0_2.length < 4398046511104
            ·
             rw [if_pos c75] at H
             have LMc75 := Aside0.mk (c75)
             clear c75
             obtain ⟨y135, hy135⟩ : ∃ y_ : List (S26), y_ = (l0_2 ++ [(⟨a1_0, a1_1, a1_2, a1_3⟩ : S26)]) := ⟨_, rfl⟩
             replace H : (some (a0_0, a0_1, y135, 0)) = some (r1, r2, r3, r4) := by first | (rw [hy135]; with_reducible exact H) | (have H2_ := (Option.bind_some _ _).symm.trans H; rw [hy135]; with_reducible exact H2_) | (have H2_ := (Option.bind_some _ _).symm.trans H; with_reducible exact H2_) | with_reducible exact H | (rw [hy135]; exact H) | exact H
             have Ny135 := Aside0.mk (hy135)
             clear hy135
             simp only [Option.some.injEq, Prod.mk.injEq] at H
             obtain ⟨rfl, rfl, rfl, rfl⟩ := H
             try go_wp2
             have n0_ := Bk.mk (blk_drew BK126.out)
             have n1_ := Bk.mk (blk_drew BK127.out)
             have n2_ := Bk.mk (blk_drew BK128.out)
             have n3_ := Bw.mk (below_drew1 HB.out)
             clear BK126 BK127 BK128 HB
             have BK126 := n0_
             have BK127 := n1_
             have BK128 := n2_
             have HB := n3_
             clear n0_ n1_ n2_ n3_
             obtain ⟨i077, hi077, _, _, _⟩ := info_parts info26
             have hcut77 := capcut_ (P := Tryd.prog) 22 26 Tryd.underlying22 hi077 A0_2 l0_2.length c0_2 (l0_2.length : Int) (Int.le_antisymm (of_decide_eq_true (by first | (with_reducible assumption) | assumption)) (of_decide_eq_true (by first | (with_reducible assumption) | assumption))) HC0_2.out
             clear hi077
             refine start_ (n := 10) (S := fun w' => w'.cell? ⟨gb126, 0, none⟩ = some (.int .i64 a0_0) ∧ w'.cell? ⟨gb126, 1, none⟩ = some (.int .i64 a0_1) ∧ w'.cell? ⟨gb126, 2, none⟩ = some (.slice A0_2 l0_2.length c0_2) ∧ w'.cell? ⟨gb127, 0, none⟩ = some (.int .i64 a1_0) ∧ w'.cell? ⟨gb127, 1, none⟩ = some (.int .i64 a1_1) ∧ w'.cell? ⟨gb127, 2, none⟩ = some (.int .i64 a1_2) ∧ w'.cell? ⟨gb127, 3, none⟩ = some (.int .i64 a1_3)) (ds := [9]) #[false, false, false, false, false, false, false, false, false, false] (by kernel_rfl) rfl rfl ⟨bc BK126 0, bc BK126 1, bc BK126 2, bc BK127 0, bc BK127 1, bc BK127 2, bc BK127 3⟩ (fun hHeld => ?_); refine with_tabW course_AddTest.tab17 course_AddTest.bits17 (fun HT_ HW_ => ?_)
             generalize wr.drew = w76 at BK126 BK127 BK128 HB hHeld ⊢
             refine pS 0 (some 55) rfl rfl (any_of HT_.out (by kernel_rfl)) (fun _ _ _ h => h) (by rfl) (fun w' => by go_simp; with_reducible rfl) (by simp only [Act.put, List.setIfInBounds_toArray, List.set_cons_zero, List.set_cons_succ, i64_w]; rfl) ?_
             refine pS 2 (some 57) rfl rfl (any_of HT_.out (by kernel_rfl)) (fun _ _ _ h => h) (by rfl) (fun w' => by go_simp; with_reducible rfl) (by simp only [Act.put, List.setIfInBounds_toArray, List.set_cons_zero, List.set_cons_succ, i64_w]; rfl) ?_
             refine pS 3 (some 58) rfl rfl (any_of HT_.out (by kernel_rfl)) (fun _ _ _ h => h) (by rfl) (fun w' => by go_simp; with_reducible rfl) (by simp only [Act.put, List.setIfInBounds_toArray, List.set_cons_zero, List.set_cons_succ, i64_w]; rfl) ?_
             refine tS 1 (some 56) rfl rfl (take_ofW HT_.out HW_.out (by kernel_rfl)) (fun _ _ _ h => h) (by rfl) (by rintro w' ⟨s0, s1, s2, s3, s4, s5, s6⟩; go_simp; with_reducible rfl) hHeld (by simp only [Act.put, List.setIfInBounds_toArray, List.set_cons_zero, List.set_cons_succ, i64_w]; rfl) ?_
             refine pS 4 (some 59) rfl rfl (any_of HT_.out (by kernel_rfl)) (fun _ _ _ h => h) (by rfl) (fun w' => by go_simp; with_reducible rfl) (by simp only [Act.put, List.setIfInBounds_toArray, List.set_cons_zero, List.set_cons_succ, i64_w]; rfl) ?_
             refine tS 5 (some 60) rfl rfl (take_ofW HT_.out HW_.out (by kernel_rfl)) (fun _ _ _ h => h) (by rfl) (by rintro w' ⟨s0, s1, s2, s3, s4, s5, s6⟩; go_simp; with_reducible rfl) hHeld (by simp only [Act.put, List.setIfInBounds_toArray, List.set_cons_zero, List.set_cons_succ, i64_w]; rfl) ?_
             refine one_ (i := 6) (N := some 61) #[true, true, true, true, true, true, true, false, false, false] rfl rfl (one_of HT_.out (by kernel_rfl)) (by decide) (fun K hK => ?_)
             refine value_ (w1 := ?_) (v := ?_) (by rfl) rfl ?_ ?_
             rotate_left 2
             ·
              go_simp
              constructor
              ·
               rfl
              ·
               rfl
             refine hK.out _ _ ⟨(blk_cell (blk_alloc BK126.out _) 0).trans rfl, (blk_cell (blk_alloc BK126.out _) 1).trans rfl, (blk_cell (blk_alloc BK126.out _) 2).trans rfl, (blk_cell (blk_alloc BK127.out _) 0).trans rfl, (blk_cell (blk_alloc BK127.out _) 1).trans rfl, (blk_cell (blk_alloc BK127.out _) 2).trans rfl, (blk_cell (blk_alloc BK127.out _) 3).trans rfl⟩ (fun hHeld => ?_)
             clear hK K
             refine norm_ (a' := ?_) ?_ ?_
             rotate_left
             ·
              show Act.put _ (some 61) _ = _
              simp only [Act.put, List.setIfInBounds_toArray, List.set_cons_zero, List.set_cons_succ, i64_w]
              rfl
             refine one_ (i := 7) (N := some 62) #[true, true, true, true, true, true, true, true, false, false] rfl rfl (one_of HT_.out (by kernel_rfl)) (by decide) (fun K hK => ?_)
             refine Kd.R_append_cap_step k26 (w0 := w) w.heap.size (by rfl) (.tmp 59) (.tmp 61) 22 26 (.agg #[(.int .i64 0), (.int .i64 0), (.int .i64 0), (.int .i64 0)]) 32 rfl Tryd.underlying22 info26 rfl (by decide) (by omega) _ _ l0_2 (⟨a1_0, a1_1, a1_2, a1_3⟩ : S26) [.int .i64 a1_0, .int .i64 a1_1, .int .i64 a1_2, .int .i64 a1_3] (fun k_ => k_ ≠ gb127) rfl rfl ?aC (fun _ _ h => h) ?aP ?aF ?aB ?aS ?aL ?_
             (case aP => exact k26_mkM _ _ _ (⟨a1_0, a1_1, a1_2, a1_3⟩ : S26))
             (case aC => repeat (first | exact (Kd.C_below HR0_2.out HB.out) | (with_reducible refine Kd.C_alloc ?_ _) | (with_reducible refine Kd.C_drewN ?_ _) | (with_reducible refine Kd.C_drew ?_)))
             (case aB => exact (bw w))
             (case aF => exact (fun k_ hk => Kd.freshB (g := gb127) (o := .cells #[.int .i64 a1_0, .int .i64 a1_1, .int .i64 a1_2, .int .i64 a1_3] 26 (0, 0)) (bk _ gb127) k_ hk))
             (case aS => exact (bz w))
             (case aL => have := LMc75.out; omega)
             intro v136 w78 ho hb hg hat
             rw [← Ny135.out] at ho
             have n0_ := Bk.mk (blk_grown (g := gb126) (o := .cells #[.int .i64 a0_0, .int .i64 a0_1, .slice A0_2 l0_2.length c0_2] 24 (0, 0)) (bk _ gb126) hg (by simp [Value.ownBlock]))
             have n1_ := Bk.mk (blk_grown (g := gb127) (o := .cells #[.int .i64 a1_0, .int .i64 a1_1, .int .i64 a1_2, .int .i64 a1_3] 26 (0, 0)) (bk _ gb127) hg (by simp [Value.ownBlock]))
             have n2_ := Bk.mk (blk_grown (g := gb128) (o := .cells #[.int .i64 x129000_2, .int .i64 x129001_2, .slice none 0 0] 24 (0, 0)) (bk _ gb128) hg (by simp [Value.ownBlock]))
             have n3_ := Bw.mk (hb)
             have n4_ := Aside0.mk (ho)
             clear BK126 BK127 BK128 HB
             have BK126 := n0_
             have BK127 := n1_
             have BK128 := n2_
             have HB := n3_
             have HO137 := n4_
             clear n0_ n1_ n2_ n3_ n4_ ho hb hg hat
             obtain ⟨Ao79, co79, eo79⟩ := Kd.R_slice HO137.out
             (first | subst eo79 | (injection eo79 with f1_ f2_ f3_; have f4_ := f1_.symm; have f5_ := f3_.symm; clear f1_ f2_ f3_; subst f4_; subst f5_))
             refine hK.out _ _ ⟨bc BK126 0, bc BK126 1, bc BK126 2, bc BK127 0, bc BK127 1, bc BK127 2, bc BK127 3⟩ (fun hHeld => ?_)
             clear hK K
             refine norm_ (a' := ?_) ?_ ?_
             rotate_left
             ·
              show Act.put _ (some 62) _ = _
              simp only [Act.put, List.setIfInBounds_toArray, List.set_cons_zero, List.set_cons_succ, i64_w]
              rfl
             refine pS 8 (some 63) rfl rfl (any_of HT_.out (by kernel_rfl)) (fun _ _ _ h => h) (by rfl) (fun w' => by go_simp; with_reducible rfl) (by simp only [Act.put, List.setIfInBounds_toArray, List.set_cons_zero, List.set_cons_succ, i64_w]; rfl) ?_
             refine last_ (i := 9) (N := none) #[true, true, true, true, true, true, true, true, true, true] rfl rfl (one_of HT_.out (by kernel_rfl)) (by decide) (fun K hK => ?_)
             have hs80 : w78.cell? ⟨gb126, 2, none⟩ = some (.slice A0_2 l0_2.length c0_2) := bc BK126 2
             have hfs80 := blk_frozen BK126.out 2
             have hns80_1 := NB126_127.out.symm
             have hns80_2 := NB126_128.out.symm
             have hms80_1 := NB126_127.out
             have hms80_2 := NB126_128.out
             refine skip_ (w1 := ?_) (by rfl) rfl ?_ ?_
             rotate_left
             ·
              go_simp
              rfl
             refine hK.out _ _ ?_
             clear hK K
             refine done_ (done_of HT_.out (by kernel_rfl)) ?_
             obtain ⟨hnb81, hnc81⟩ := nn NB126_127
             obtain ⟨hnb82, hnc82⟩ := nn NB126_128
             obtain ⟨hcz83_0, hcz83_1, hcz83_2, hfz83_0, hfz83_1, hfz83_2⟩ := cz3 BK126
             obtain ⟨hnc84, hnb84⟩ := nn NB127_128
             obtain ⟨hcz85_0, hcz85_1, hcz85_2, hfz85_0, hfz85_1, hfz85_2⟩ := cz3 BK128
             try go_wp2
             all_goals (refine bodyPost_ret (results_ct rfl _ _ gb128 24 #[.int .i64 a0_0, .int .i64 a0_1, .slice Ao79 y135.length co79] (0, 0) _ rfl (bko gb128 (by rfl)) Tryd.underlying24 rfl (by kernel_rfl)) rfl ?_; exact ⟨_, by first | rfl | (simp [errW_none, errW_some] <;> rfl) | (simp [*, errW_none, errW_some] <;> rfl), by (with_reducible repeat (first | apply Kd.R_alloc | apply Kd.R_drewN | apply Kd.R_drew)); exact Kd.R_mono (Kd.R_far (p := ⟨gb128, 2, none⟩) (Kd.R_far (p := ⟨gb128, 1, none⟩) (Kd.R_far (p := ⟨gb128, 0, none⟩) (Kd.R_far (p := ⟨gb126, 2, none⟩) (Kd.R_types (Kd.R_types HO137.out BK126.out (by decide)) BK128.out (by decide)) (fun _ hk => hk.1.2) (.slice Ao79 y135.length co79)) (fun _ hk => hk.2) (.int .i64 a0_0)) (fun _ hk => hk.2) (.int .i64 a0_1)) (fun _ hk => hk.2) (.slice Ao79 y135.length co79)) (fun _ hk => trivial), bw w⟩)
            ·
             rw [if_neg c75] at H
             exact absurd H (by simp)
           ·
            rw [if_neg c74] at H
            exact absurd H (by simp)
          ·
           rw [if_neg c73] at H
           exact absurd H (by simp)
  ·
   rw [if_neg c6] at H
   have c6b0 : (t130 == 0) = false := beq_eq_false_iff_ne.mpr c6
   have c6b1 : (t130 != 0) = true := bne_iff_ne.mpr c6
   simp only [Option.some.injEq, Prod.mk.injEq] at H
   obtain ⟨rfl, rfl, rfl, rfl⟩ := H
   go_enter Tryd.func16, Tryd.ntmps16
   go_wp2_with (first | ((with_reducible refine gate_dst (N := 2) rfl ?_); refine bxE 2 24 #[.int .i64 a0_0, .int .i64 a0_1, .slice A0_2 l0_2.length c0_2] (by rfl) (by rfl) (by first | (go_simp; done) | (go_simp; rfl)) ?_; intro gb126 hg w86 hbox hb; have BK126 := Bk.mk (hbox); have GE126 := eB w hg; replace HB := bS w hb; clear hb hbox hg) | ((with_reducible refine gate_dst (N := 3) rfl ?_); refine bxE 3 26 #[.int .i64 a1_0, .int .i64 a1_1, .int .i64 a1_2, .int .i64 a1_3] (by rfl) (by rfl) (by first | (go_simp; done) | (go_simp; rfl)) ?_; intro gb127 hg w87 hbox hb; have BK127 := Bk.mk (hbox); have GE127 := eB w hg; have NB126_127 := nB gb126 hg; replace BK126 := kB gb126 hb; replace HB := bS w hb; clear hb hbox hg) | ((with_reducible refine gate_dst (N := 4) rfl ?_); refine bxE 4 24 #[.int .i64 0, .int .i64 0, .slice none 0 0] (by rfl) (by rfl) (by first | (go_simp; done) | (go_simp; rfl)) ?_; intro gb128 hg w88 hbox hb; have BK128 := Bk.mk (hbox); have GE128 := eB w hg; have NB126_128 := nB gb126 hg; have NB127_128 := nB gb127 hg; replace BK126 := kB gb126 hb; replace BK127 := kB gb127 hb; replace HB := bS w hb; clear hb hbox hg; obtain ⟨hnb89, hnc89⟩ := nn NB126_127; obtain ⟨hnb90, hnc90⟩ := nn NB126_128; obtain ⟨hcz91_0, hcz91_1, hcz91_2, hfz91_0, hfz91_1, hfz91_2⟩ := cz3 BK126) | ((with_reducible refine gate_callee (f := 20) rfl ?_); refine goesLM (some 11) rfl rfl Tryd.func20 (by kernel_rfl) rfl #[.agg #[.int .i64 a0_0, .int .i64 a0_1, .slice A0_2 l0_2.length c0_2]] rfl (by rfl) ?_; (with_reducible refine (course_CheckScale.calls k a0_0 a0_1 _ _ l0_2 t129 _ ?side1 ?side2 A3.out).mono ?_); (case side1 => exact cP (Kd.C_below HR0_2.out HB.out)); (case side2 => exact HC0_2.out); rintro e w92 ⟨rfl, hb⟩; refine ⟨_, rfl, ?_⟩; replace BK126 := kB gb126 hb; replace BK127 := kB gb127 hb; replace BK128 := kB gb128 hb; replace HB := bS w hb; (try clear hb); obtain ⟨hnb93, hnc93⟩ := nn NB127_128; obtain ⟨hcz94_0, hcz94_1, hcz94_2, hcz94_3, hfz94_0, hfz94_1, hfz94_2, hfz94_3⟩ := cz4 BK127) | ((with_reducible refine gate_callee (f := 18) rfl ?_); refine goesLM (some 17) rfl rfl Tryd.func18 (by kernel_rfl) rfl #[.agg #[.int .i64 a1_0, .int .i64 a1_1, .int .i64 a1_2, .int .i64 a1_3]] rfl (by rfl) ?_; (with_reducible refine (course_CheckTest.calls a1_0 a1_1 a1_2 a1_3 t130 _ A5.out).mono ?_); rintro e w95 ⟨rfl, hb⟩; refine ⟨_, rfl, ?_⟩; replace BK126 := kB gb126 hb; replace BK127 := kB gb127 hb; replace BK128 := kB gb128 hb; replace HB := bS w hb; (try clear hb); obtain ⟨hcz96_0, hcz96_1, hcz96_2, hfz96_0, hfz96_1, hfz96_2⟩ := cz3 BK128))
   all_goals (refine bodyPost_ret (results_ct rfl _ _ gb128 24 #[.int .i64 0, .int .i64 0, .slice none 0 0] (0, 0) _ rfl (bko gb128 (by rfl)) Tryd.underlying24 rfl (by kernel_rfl)) rfl ?_; exact ⟨_, by first | rfl | (simp [errW_none, errW_some] <;> rfl) | (simp [*, errW_none, errW_some] <;> rfl), by first | exact Kd.R_nil _ _ _ _ _ | exact Kd.N_nil _ _ _ _ _ | exact Kd.V_nil _ _ _ _ _ | exact Kd.Q_nil _ _ _ _ _ | exact Kd.S_nil _ _ _ _ _, bw w⟩)
 ·
  rw [if_neg c4] at H
  have c4b0 : (t129 == 0) = false := beq_eq_false_iff_ne.mpr c4
  have c4b1 : (t129 != 0) = true := bne_iff_ne.mpr c4
  simp only [Option.some.injEq, Prod.mk.injEq] at H
  obtain ⟨rfl, rfl, rfl, rfl⟩ := H
  go_enter Tryd.func16, Tryd.ntmps16
  go_wp2_with (first | ((with_reducible refine gate_dst (N := 2) rfl ?_); refine bxE 2 24 #[.int .i64 a0_0, .int .i64 a0_1, .slice A0_2 l0_2.length c0_2] (by rfl) (by rfl) (by first | (go_simp; done) | (go_simp; rfl)) ?_; intro gb126 hg w97 hbox hb; have BK126 := Bk.mk (hbox); have GE126 := eB w hg; replace HB := bS w hb; clear hb hbox hg) | ((with_reducible refine gate_dst (N := 3) rfl ?_); refine bxE 3 26 #[.int .i64 a1_0, .int .i64 a1_1, .int .i64 a1_2, .int .i64 a1_3] (by rfl) (by rfl) (by first | (go_simp; done) | (go_simp; rfl)) ?_; intro gb127 hg w98 hbox hb; have BK127 := Bk.mk (hbox); have GE127 := eB w hg; have NB126_127 := nB gb126 hg; replace BK126 := kB gb126 hb; replace HB := bS w hb; clear hb hbox hg) | ((with_reducible refine gate_dst (N := 4) rfl ?_); refine bxE 4 24 #[.int .i64 0, .int .i64 0, .slice none 0 0] (by rfl) (by rfl) (by first | (go_simp; done) | (go_simp; rfl)) ?_; intro gb128 hg w99 hbox hb; have BK128 := Bk.mk (hbox); have GE128 := eB w hg; have NB126_128 := nB gb126 hg; have NB127_128 := nB gb127 hg; replace BK126 := kB gb126 hb; replace BK127 := kB gb127 hb; replace HB := bS w hb; clear hb hbox hg; obtain ⟨hnb100, hnc100⟩ := nn NB126_127; obtain ⟨hnb101, hnc101⟩ := nn NB126_128; obtain ⟨hcz102_0, hcz102_1, hcz102_2, hfz102_0, hfz102_1, hfz102_2⟩ := cz3 BK126) | ((with_reducible refine gate_callee (f := 20) rfl ?_); refine goesLM (some 11) rfl rfl Tryd.func20 (by kernel_rfl) rfl #[.agg #[.int .i64 a0_0, .int .i64 a0_1, .slice A0_2 l0_2.length c0_2]] rfl (by rfl) ?_; (with_reducible refine (course_CheckScale.calls k a0_0 a0_1 _ _ l0_2 t129 _ ?side1 ?side2 A3.out).mono ?_); (case side1 => exact cP (Kd.C_below HR0_2.out HB.out)); (case side2 => exact HC0_2.out); rintro e w103 ⟨rfl, hb⟩; refine ⟨_, rfl, ?_⟩; replace BK126 := kB gb126 hb; replace BK127 := kB gb127 hb; replace BK128 := kB gb128 hb; replace HB := bS w hb; (try clear hb); obtain ⟨hnc104, hnb104⟩ := nn NB127_128; obtain ⟨hcz105_0, hcz105_1, hcz105_2, hfz105_0, hfz105_1, hfz105_2⟩ := cz3 BK128))
  all_goals (refine bodyPost_ret (results_ct rfl _ _ gb128 24 #[.int .i64 0, .int .i64 0, .slice none 0 0] (0, 0) _ rfl (bko gb128 (by rfl)) Tryd.underlying24 rfl (by kernel_rfl)) rfl ?_; exact ⟨_, by first | rfl | (simp [errW_none, errW_some] <;> rfl) | (simp [*, errW_none, errW_some] <;> rfl), by first | exact Kd.R_nil _ _ _ _ _ | exact Kd.N_nil _ _ _ _ _ | exact Kd.V_nil _ _ _ _ _ | exact Kd.Q_nil _ _ _ _ _ | exact Kd.S_nil _ _ _ _ _, bw w⟩)
def course_ask.l0 : Nat → List Int → Int → Int → Option (Int)
 | 0, _, _, _ => none
 | k + 1, x13, x14, x15 => if x15 < x14 then (if 0 ≤ x15 then (if x15 < (x13.length : Int) then ((course_day.f (rd x13 x15)).bind fun t141 => (if t141 = true then (course_ask.l0 k x13 x14 (wrap64 (x15 + 1))) else (some 1))) else (none)) else (none)) else (some 0)
def course_ask.f (k : Nat) (a0_0 : Int) (a0_1 : Int) (l0_2 : List (S26)) (l1 : List Int) : Option (Int) := (course_CheckScale.f k a0_0 a0_1 l0_2).bind fun t139 => (if t139 = 0 then (course_ask.l0 k l1 (l1.length : Int) 0) else (some t139))
theorem course_ask.mono_l : ∀ k, (∀ y0 y1 y2, LeO (course_ask.l0 k y0 y1 y2) (course_ask.l0 (k + 1) y0 y1 y2))
 | 0 => fun _ _ _ r h => by simp [course_ask.l0] at h
 | k + 1 => by
  have ih0 := course_ask.mono_l k
  ·
   intro y0 y1 y2
   unfold course_ask.l0
   repeat' first
   | (with_reducible exact ih0 _ _ _)
   | (with_reducible exact course_CheckScale.mono _ _ _ _)
   | (with_reducible exact LeO.refl _)
   | (with_reducible exact LeO.none _)
   | (with_reducible refine LeO.ite ?_ ?_)
   | (with_reducible refine LeO.bind ?_ (fun _ => ?_))
   | exact ih0 _ _ _
   | exact course_CheckScale.mono _ _ _ _
   | exact LeO.none _
   | refine LeO.ite ?_ ?_
   | refine LeO.bind ?_ (fun _ => ?_)
theorem course_ask.mono : ∀ a0 a1 a2 a3 k, LeO (course_ask.f k a0 a1 a2 a3) (course_ask.f (k + 1) a0 a1 a2 a3) := by
 intro a0 a1 a2 a3 k
 have ih0 := course_ask.mono_l k
 unfold course_ask.f
 repeat' first
   | (with_reducible exact ih0 _ _ _)
   | (with_reducible exact course_CheckScale.mono _ _ _ _)
   | (with_reducible exact LeO.refl _)
   | (with_reducible exact LeO.none _)
   | (with_reducible refine LeO.ite ?_ ?_)
   | (with_reducible refine LeO.bind ?_ (fun _ => ?_))
   | exact ih0 _ _ _
   | exact course_CheckScale.mono _ _ _ _
   | exact LeO.none _
   | refine LeO.ite ?_ ?_
   | refine LeO.bind ?_ (fun _ => ?_)
set_option maxHeartbeats 8000000 in
set_option maxRecDepth 100000 in
theorem course_ask.calls (k : Nat) (a0_0 : Int) (a0_1 : Int) (A0_2 : Option Addr) (c0_2 : Nat) (l0_2 : List (S26)) (A1 : Option Addr) (c1 : Nat) (l1 : List Int) (r : Int) (w : World) (hr0_2 : Kd.C k26 w A0_2 l0_2.length l0_2) (hc0_2 : l0_2.length ≤ c0_2) (hr1 : Kd.C (Kd.int .i64) w A1 l1.length l1) (hc1 : l1.length ≤ c1) (h : course_ask.f k a0_0 a0_1 l0_2 l1 = some r) :
  Calls Tryd.prog 76 #[.agg #[.int .i64 a0_0, .int .i64 a0_1, .slice A0_2 l0_2.length c0_2], .slice A1 l1.length c1] w fun e w' => e = .returned (.int .i64 r) ∧ Below w.heap.size w w' := by
 have hu24 := Tryd.underlying24
 have HR0_2 := Aside0.mk (hr0_2)
 have HC0_2 := Aside0.mk (hc0_2)
 clear hr0_2 hc0_2
 have HR1 := Aside0.mk (hr1)
 have HC1 := Aside0.mk (hc1)
 clear hr1 hc1
 have HB := Bw.mk (Below.refl w.heap.size w)
 have H : ((course_CheckScale.f k a0_0 a0_1 l0_2).bind fun t139 => (if t139 = 0 then (course_ask.l0 k l1 (l1.length : Int) 0) else (some t139))) = some r := h
 clear h
 replace H := Option.bind_eq_some_iff.mp H
 obtain ⟨t139, A30, H⟩ := H
 have A3 := Aside0.mk (A30)
 clear A30
 by_cases c4 : t139 = 0
 ·
  rw [if_pos c4] at H
  have c4b0 : (t139 == 0) = true := beq_iff_eq.mpr c4
  have c4b1 : (t139 != 0) = false := bne_eq_false_iff_eq.mpr c4
  clear c4
  have H' := Aside0.mk H
  clear H
  go_enter Tryd.func76, Tryd.ntmps76
  go_wp2_with (first | ((with_reducible refine gate_dst (N := 2) rfl ?_); refine bxE 2 24 #[.int .i64 a0_0, .int .i64 a0_1, .slice A0_2 l0_2.length c0_2] (by rfl) (by rfl) (by first | (go_simp; done) | (go_simp; rfl)) ?_; intro gb138 hg w5 hbox hb; have BK138 := Bk.mk (hbox); have GE138 := eB w hg; replace HB := bS w hb; clear hb hbox hg; obtain ⟨hcz6_0, hcz6_1, hcz6_2, hfz6_0, hfz6_1, hfz6_2⟩ := cz3 BK138) | ((with_reducible refine gate_callee (f := 20) rfl ?_); refine goesLM (some 9) rfl rfl Tryd.func20 (by kernel_rfl) rfl #[.agg #[.int .i64 a0_0, .int .i64 a0_1, .slice A0_2 l0_2.length c0_2]] rfl (by rfl) ?_; (with_reducible refine (course_CheckScale.calls k a0_0 a0_1 _ _ l0_2 t139 _ ?side1 ?side2 A3.out).mono ?_); (case side1 => exact cP (Kd.C_below HR0_2.out HB.out)); (case side2 => exact HC0_2.out); rintro e w7 ⟨rfl, hb⟩; refine ⟨_, rfl, ?_⟩; replace BK138 := kB gb138 hb; replace HB := bS w hb; (try clear hb)))
  go_loopg [15] k (fun kq v15 w' => ∃ (x15_1 : Int), v15 = .int .i64 x15_1 ∧ Aside0 (course_ask.l0 kq l1 (l1.length : Int) x15_1 = some r) ∧ Aside0 (kq ≤ k) ∧ Bk w' gb138 (.cells #[.int .i64 a0_0, .int .i64 a0_1, (.slice A0_2 l0_2.length c0_2)] 24 (0, 0)) ∧ Bw w w')
  case atStart => exact ⟨(0), (by first | rfl | (simp; done) | (simp [*]; done)), H', ⟨Nat.le_refl _⟩, inferInstance, inferInstance⟩
  case round =>
   clear H'
   try clear c1
   try clear c2
   try clear p2
   try clear c4
   try clear c4b0
   try clear c4b1
   try clear c7
   obtain ⟨x15_1, rfl, HA, HK1, BK138, HB⟩ := hrel
   cases gk with
   | zero => exact absurd HA.out (by simp [course_ask.l0])
   | succ k1 =>
    have H := HA.out
    clear HA
    simp only [course_ask.l0] at H
    by_cases c8 : x15_1 < (l1.length : Int)
    ·
     rw [if_pos c8] at H
     have c8b0 : decide (x15_1 < (l1.length : Int)) = true := decide_eq_true c8
     clear c8
     by_cases c9 : 0 ≤ x15_1
     ·
      rw [if_pos c9] at H
      have c9b0 : decide (0 ≤ x15_1) = true := decide_eq_true c9
      clear c9
      by_cases c10 : x15_1 < (l1.length : Int)
      ·
       rw [if_pos c10] at H
       have c10b0 : decide (x15_1 < (l1.length : Int)) = true := decide_eq_true c10
       clear c10
       replace H := Option.bind_eq_some_iff.mp H
       obtain ⟨t141, A110, H⟩ := H
       have A11 := Aside0.mk (A110)
       clear A110
       by_cases c12 : t141 = true
       ·
        subst c12
        rw [if_pos rfl] at H
        have H' := Aside0.mk H
        clear H
        have p140 : 0 ≤ (x15_1 : Int) := of_decide_eq_true (by first | (with_reducible assumption) | assumption)
        have q140 : x15_1 < (l1.length : Int) := of_decide_eq_true (by first | (with_reducible assumption) | assumption)
        obtain ⟨ad140, e140, hx140_0⟩ := Kd.at_int HR1.out x15_1 p140 q140
        cases e140
        replace hx140_0 := cB HB hx140_0
        replace p140 := eq_true p140
        replace q140 := eq_true q140
        go_wp2_with (first | ((with_reducible refine gate_callee (f := 74) rfl ?_); refine goesLM (some 20) rfl rfl Tryd.func74 (by kernel_rfl) rfl #[.int .i64 (rd l1 x15_1)] rfl (by rfl) ?_; (with_reducible refine (course_day.calls (rd l1 x15_1) true _ A11.out).mono ?_); rintro e w' ⟨rfl, ⟨nd, rfl⟩⟩; refine ⟨_, rfl, ?_⟩))
        go_roundg k1
        case measure => have := HK1.out; omega
        case rel => exact ⟨(wrap64 (x15_1 + 1)), (by first | rfl | (simp; done) | (simp [*]; done)), H', ⟨by have := HK1.out; omega⟩, inferInstance, inferInstance⟩
       ·
        replace c12 := Bool.eq_false_iff.mpr c12
        subst c12
        rw [if_neg (show ¬ (false = true) by decide)] at H
        obtain rfl := Option.some.inj H
        have p140 : 0 ≤ (x15_1 : Int) := of_decide_eq_true (by first | (with_reducible assumption) | assumption)
        have q140 : x15_1 < (l1.length : Int) := of_decide_eq_true (by first | (with_reducible assumption) | assumption)
        obtain ⟨ad140, e140, hx140_0⟩ := Kd.at_int HR1.out x15_1 p140 q140
        cases e140
        replace hx140_0 := cB HB hx140_0
        replace p140 := eq_true p140
        replace q140 := eq_true q140
        go_wp2_with (first | ((with_reducible refine gate_callee (f := 74) rfl ?_); refine goesLM (some 20) rfl rfl Tryd.func74 (by kernel_rfl) rfl #[.int .i64 (rd l1 x15_1)] rfl (by rfl) ?_; (with_reducible refine (course_day.calls (rd l1 x15_1) false _ A11.out).mono ?_); rintro e w' ⟨rfl, ⟨nd, rfl⟩⟩; refine ⟨_, rfl, ?_⟩))
        go_ret
        exact ⟨by first | rfl | (simp [errW_none, errW_some] <;> rfl) | (simp [*, errW_none, errW_some] <;> rfl), bw w⟩
      ·
       rw [if_neg c10] at H
       exact absurd H (by simp)
     ·
      rw [if_neg c9] at H
      exact absurd H (by simp)
    ·
     rw [if_neg c8] at H
     have c8b0 : decide (x15_1 < (l1.length : Int)) = false := decide_eq_false c8
     clear c8
     obtain rfl := Option.some.inj H
     go_wp2
     go_ret
     exact ⟨by first | rfl | (simp [errW_none, errW_some] <;> rfl) | (simp [*, errW_none, errW_some] <;> rfl), bw w⟩
 ·
  rw [if_neg c4] at H
  have c4b0 : (t139 == 0) = false := beq_eq_false_iff_ne.mpr c4
  have c4b1 : (t139 != 0) = true := bne_iff_ne.mpr c4
  obtain rfl := Option.some.inj H
  go_enter Tryd.func76, Tryd.ntmps76
  go_wp2_with (first | ((with_reducible refine gate_dst (N := 2) rfl ?_); refine bxE 2 24 #[.int .i64 a0_0, .int .i64 a0_1, .slice A0_2 l0_2.length c0_2] (by rfl) (by rfl) (by first | (go_simp; done) | (go_simp; rfl)) ?_; intro gb138 hg w13 hbox hb; have BK138 := Bk.mk (hbox); have GE138 := eB w hg; replace HB := bS w hb; clear hb hbox hg; obtain ⟨hcz14_0, hcz14_1, hcz14_2, hfz14_0, hfz14_1, hfz14_2⟩ := cz3 BK138) | ((with_reducible refine gate_callee (f := 20) rfl ?_); refine goesLM (some 9) rfl rfl Tryd.func20 (by kernel_rfl) rfl #[.agg #[.int .i64 a0_0, .int .i64 a0_1, .slice A0_2 l0_2.length c0_2]] rfl (by rfl) ?_; (with_reducible refine (course_CheckScale.calls k a0_0 a0_1 _ _ l0_2 t139 _ ?side1 ?side2 A3.out).mono ?_); (case side1 => exact cP (Kd.C_below HR0_2.out HB.out)); (case side2 => exact HC0_2.out); rintro e w15 ⟨rfl, hb⟩; refine ⟨_, rfl, ?_⟩; replace BK138 := kB gb138 hb; replace HB := bS w hb; (try clear hb)))
  go_ret
  exact ⟨by first | rfl | (simp [errW_none, errW_some] <;> rfl) | (simp [*, errW_none, errW_some] <;> rfl), bw w⟩
def snowlineref01_Day.f (a0 : Int) : Option (Bool) := if a0 ≥ 0 then (some (decide (a0 ≤ 1048576))) else (some false)
set_option maxHeartbeats 8000000 in
set_option maxRecDepth 100000 in
theorem snowlineref01_Day.calls (a0 : Int) (r : Bool) (w : World) (h : snowlineref01_Day.f a0 = some r) :
  Calls Tryd.prog 75 #[.int .i64 a0] w fun e w' => e = .returned (.bool r) ∧ Drawn0 w w' := by
 have H : (if a0 ≥ 0 then (some (decide (a0 ≤ 1048576))) else (some false)) = some r := h
 clear h
 by_cases c2 : a0 ≥ 0
 ·
  rw [if_pos c2] at H
  have c2b0 : decide (0 ≤ a0) = true := decide_eq_true c2
  clear c2
  obtain rfl := Option.some.inj H
  go_enter Tryd.func75, Tryd.ntmps75
  go_wp2
  go_ret
  exact ⟨by first | rfl | (simp; done) | (simp [*]; done), by repeat (first | exact Drawn0.refl _ | apply Drawn0.step)⟩
 ·
  rw [if_neg c2] at H
  have c2b0 : decide (0 ≤ a0) = false := decide_eq_false c2
  clear c2
  obtain rfl := Option.some.inj H
  go_enter Tryd.func75, Tryd.ntmps75
  go_wp2
  go_ret
  exact ⟨by first | rfl | (simp; done) | (simp [*]; done), by repeat (first | exact Drawn0.refl _ | apply Drawn0.step)⟩
def snowlineref01_CheckTest.f (a0_0 : Int) (a0_1 : Int) (a0_2 : Int) (a0_3 : Int) : Option (Int) := (snowlineref01_Day.f a0_0).bind fun t451 => ((snowlineref01_Day.f a0_1).bind fun t452 => (if t451 = true then (if t452 = true then (if a0_2 ≥ (-1048576) then (if a0_2 ≤ a0_3 then (if a0_3 ≤ 1048576 then (some 0) else (some 10)) else (some 10)) else (some 10)) else (some 10)) else (some 10)))
set_option maxHeartbeats 8000000 in
set_option maxRecDepth 100000 in
theorem snowlineref01_CheckTest.calls (a0_0 : Int) (a0_1 : Int) (a0_2 : Int) (a0_3 : Int) (r : Int) (w : World) (h : snowlineref01_CheckTest.f a0_0 a0_1 a0_2 a0_3 = some r) :
  Calls Tryd.prog 19 #[.agg #[.int .i64 a0_0, .int .i64 a0_1, .int .i64 a0_2, .int .i64 a0_3]] w fun e w' => e = .returned (.int .i64 r) ∧ Below w.heap.size w w' := by
 have hu26 := Tryd.underlying26
 have HB := Bw.mk (Below.refl w.heap.size w)
 have H : ((snowlineref01_Day.f a0_0).bind fun t451 => ((snowlineref01_Day.f a0_1).bind fun t452 => (if t451 = true then (if t452 = true then (if a0_2 ≥ (-1048576) then (if a0_2 ≤ a0_3 then (if a0_3 ≤ 1048576 then (some 0) else (some 10)) else (some 10)) else (some 10)) else (some 10)) else (some 10)))) = some r := h
 clear h
 replace H := Option.bind_eq_some_iff.mp H
 obtain ⟨t451, A20, H⟩ := H
 have A2 := Aside0.mk (A20)
 clear A20
 replace H := Option.bind_eq_some_iff.mp H
 obtain ⟨t452, A30, H⟩ := H
 have A3 := Aside0.mk (A30)
 clear A30
 by_cases c4 : t451 = true
 ·
  subst c4
  rw [if_pos rfl] at H
  by_cases c5 : t452 = true
  ·
   subst c5
   rw [if_pos rfl] at H
   by_cases c6 : a0_2 ≥ (-1048576)
   ·
    rw [if_pos c6] at H
    have c6b0 : decide ((-1048576) ≤ a0_2) = true := decide_eq_true c6
    clear c6
    by_cases c7 : a0_2 ≤ a0_3
    ·
     rw [if_pos c7] at H
     have c7b0 : decide (a0_2 ≤ a0_3) = true := decide_eq_true c7
     clear c7
     by_cases c8 : a0_3 ≤ 1048576
     ·
      rw [if_pos c8] at H
      have c8b0 : decide (a0_3 ≤ 1048576) = true := decide_eq_true c8
      clear c8
      obtain rfl := Option.some.inj H
      go_enter Tryd.func19, Tryd.ntmps19
      go_wp2_with (first | ((with_reducible refine gate_dst (N := 1) rfl ?_); refine bxE 1 26 #[.int .i64 a0_0, .int .i64 a0_1, .int .i64 a0_2, .int .i64 a0_3] (by rfl) (by rfl) (by first | (go_simp; done) | (go_simp; rfl)) ?_; intro gb450 hg w9 hbox hb; have BK450 := Bk.mk (hbox); have GE450 := eB w hg; replace HB := bS w hb; clear hb hbox hg; obtain ⟨hcz10_0, hcz10_1, hcz10_2, hcz10_3, hfz10_0, hfz10_1, hfz10_2, hfz10_3⟩ := cz4 BK450) | ((with_reducible refine gate_callee (f := 75) rfl ?_); refine goesLM (some 7) rfl rfl Tryd.func75 (by kernel_rfl) rfl #[.int .i64 a0_0] rfl (by rfl) ?_; (with_reducible refine (snowlineref01_Day.calls a0_0 true _ A2.out).mono ?_); rintro e w' ⟨rfl, ⟨nd, rfl⟩⟩; refine ⟨_, rfl, ?_⟩) | ((with_reducible refine gate_callee (f := 75) rfl ?_); refine goesLM (some 10) rfl rfl Tryd.func75 (by kernel_rfl) rfl #[.int .i64 a0_1] rfl (by rfl) ?_; (with_reducible refine (snowlineref01_Day.calls a0_1 true _ A3.out).mono ?_); rintro e w' ⟨rfl, ⟨nd, rfl⟩⟩; refine ⟨_, rfl, ?_⟩))
      go_ret
      exact ⟨by first | rfl | (simp [errW_none, errW_some] <;> rfl) | (simp [*, errW_none, errW_some] <;> rfl), bw w⟩
     ·
      rw [if_neg c8] at H
      have c8b0 : decide (a0_3 ≤ 1048576) = false := decide_eq_false c8
      clear c8
      obtain rfl := Option.some.inj H
      go_enter Tryd.func19, Tryd.ntmps19
      go_wp2_with (first | ((with_reducible refine gate_dst (N := 1) rfl ?_); refine bxE 1 26 #[.int .i64 a0_0, .int .i64 a0_1, .int .i64 a0_2, .int .i64 a0_3] (by rfl) (by rfl) (by first | (go_simp; done) | (go_simp; rfl)) ?_; intro gb450 hg w11 hbox hb; have BK450 := Bk.mk (hbox); have GE450 := eB w hg; replace HB := bS w hb; clear hb hbox hg; obtain ⟨hcz12_0, hcz12_1, hcz12_2, hcz12_3, hfz12_0, hfz12_1, hfz12_2, hfz12_3⟩ := cz4 BK450) | ((with_reducible refine gate_callee (f := 75) rfl ?_); refine goesLM (some 7) rfl rfl Tryd.func75 (by kernel_rfl) rfl #[.int .i64 a0_0] rfl (by rfl) ?_; (with_reducible refine (snowlineref01_Day.calls a0_0 true _ A2.out).mono ?_); rintro e w' ⟨rfl, ⟨nd, rfl⟩⟩; refine ⟨_, rfl, ?_⟩) | ((with_reducible refine gate_callee (f := 75) rfl ?_); refine goesLM (some 10) rfl rfl Tryd.func75 (by kernel_rfl) rfl #[.int .i64 a0_1] rfl (by rfl) ?_; (with_reducible refine (snowlineref01_Day.calls a0_1 true _ A3.out).mono ?_); rintro e w' ⟨rfl, ⟨nd, rfl⟩⟩; refine ⟨_, rfl, ?_⟩))
      go_ret
      exact ⟨by first | rfl | (simp [errW_none, errW_some] <;> rfl) | (simp [*, errW_none, errW_some] <;> rfl), bw w⟩
    ·
     rw [if_neg c7] at H
     have c7b0 : decide (a0_2 ≤ a0_3) = false := decide_eq_false c7
     clear c7
     obtain rfl := Option.some.inj H
     go_enter Tryd.func19, Tryd.ntmps19
     go_wp2_with (first | ((with_reducible refine gate_dst (N := 1) rfl ?_); refine bxE 1 26 #[.int .i64 a0_0, .int .i64 a0_1, .int .i64 a0_2, .int .i64 a0_3] (by rfl) (by rfl) (by first | (go_simp; done) | (go_simp; rfl)) ?_; intro gb450 hg w13 hbox hb; have BK450 := Bk.mk (hbox); have GE450 := eB w hg; replace HB := bS w hb; clear hb hbox hg; obtain ⟨hcz14_0, hcz14_1, hcz14_2, hcz14_3, hfz14_0, hfz14_1, hfz14_2, hfz14_3⟩ := cz4 BK450) | ((with_reducible refine gate_callee (f := 75) rfl ?_); refine goesLM (some 7) rfl rfl Tryd.func75 (by kernel_rfl) rfl #[.int .i64 a0_0] rfl (by rfl) ?_; (with_reducible refine (snowlineref01_Day.calls a0_0 true _ A2.out).mono ?_); rintro e w' ⟨rfl, ⟨nd, rfl⟩⟩; refine ⟨_, rfl, ?_⟩) | ((with_reducible refine gate_callee (f := 75) rfl ?_); refine goesLM (some 10) rfl rfl Tryd.func75 (by kernel_rfl) rfl #[.int .i64 a0_1] rfl (by rfl) ?_; (with_reducible refine (snowlineref01_Day.calls a0_1 true _ A3.out).mono ?_); rintro e w' ⟨rfl, ⟨nd, rfl⟩⟩; refine ⟨_, rfl, ?_⟩))
     go_ret
     exact ⟨by first | rfl | (simp [errW_none, errW_some] <;> rfl) | (simp [*, errW_none, errW_some] <;> rfl), bw w⟩
   ·
    rw [if_neg c6] at H
    have c6b0 : decide ((-1048576) ≤ a0_2) = false := decide_eq_false c6
    clear c6
    obtain rfl := Option.some.inj H
    go_enter Tryd.func19, Tryd.ntmps19
    go_wp2_with (first | ((with_reducible refine gate_dst (N := 1) rfl ?_); refine bxE 1 26 #[.int .i64 a0_0, .int .i64 a0_1, .int .i64 a0_2, .int .i64 a0_3] (by rfl) (by rfl) (by first | (go_simp; done) | (go_simp; rfl)) ?_; intro gb450 hg w15 hbox hb; have BK450 := Bk.mk (hbox); have GE450 := eB w hg; replace HB := bS w hb; clear hb hbox hg; obtain ⟨hcz16_0, hcz16_1, hcz16_2, hcz16_3, hfz16_0, hfz16_1, hfz16_2, hfz16_3⟩ := cz4 BK450) | ((with_reducible refine gate_callee (f := 75) rfl ?_); refine goesLM (some 7) rfl rfl Tryd.func75 (by kernel_rfl) rfl #[.int .i64 a0_0] rfl (by rfl) ?_; (with_reducible refine (snowlineref01_Day.calls a0_0 true _ A2.out).mono ?_); rintro e w' ⟨rfl, ⟨nd, rfl⟩⟩; refine ⟨_, rfl, ?_⟩) | ((with_reducible refine gate_callee (f := 75) rfl ?_); refine goesLM (some 10) rfl rfl Tryd.func75 (by kernel_rfl) rfl #[.int .i64 a0_1] rfl (by rfl) ?_; (with_reducible refine (snowlineref01_Day.calls a0_1 true _ A3.out).mono ?_); rintro e w' ⟨rfl, ⟨nd, rfl⟩⟩; refine ⟨_, rfl, ?_⟩))
    go_ret
    exact ⟨by first | rfl | (simp [errW_none, errW_some] <;> rfl) | (simp [*, errW_none, errW_some] <;> rfl), bw w⟩
  ·
   replace c5 := Bool.eq_false_iff.mpr c5
   subst c5
   rw [if_neg (show ¬ (false = true) by decide)] at H
   obtain rfl := Option.some.inj H
   go_enter Tryd.func19, Tryd.ntmps19
   go_wp2_with (first | ((with_reducible refine gate_dst (N := 1) rfl ?_); refine bxE 1 26 #[.int .i64 a0_0, .int .i64 a0_1, .int .i64 a0_2, .int .i64 a0_3] (by rfl) (by rfl) (by first | (go_simp; done) | (go_simp; rfl)) ?_; intro gb450 hg w17 hbox hb; have BK450 := Bk.mk (hbox); have GE450 := eB w hg; replace HB := bS w hb; clear hb hbox hg; obtain ⟨hcz18_0, hcz18_1, hcz18_2, hcz18_3, hfz18_0, hfz18_1, hfz18_2, hfz18_3⟩ := cz4 BK450) | ((with_reducible refine gate_callee (f := 75) rfl ?_); refine goesLM (some 7) rfl rfl Tryd.func75 (by kernel_rfl) rfl #[.int .i64 a0_0] rfl (by rfl) ?_; (with_reducible refine (snowlineref01_Day.calls a0_0 true _ A2.out).mono ?_); rintro e w' ⟨rfl, ⟨nd, rfl⟩⟩; refine ⟨_, rfl, ?_⟩) | ((with_reducible refine gate_callee (f := 75) rfl ?_); refine goesLM (some 10) rfl rfl Tryd.func75 (by kernel_rfl) rfl #[.int .i64 a0_1] rfl (by rfl) ?_; (with_reducible refine (snowlineref01_Day.calls a0_1 false _ A3.out).mono ?_); rintro e w' ⟨rfl, ⟨nd, rfl⟩⟩; refine ⟨_, rfl, ?_⟩))
   go_ret
   exact ⟨by first | rfl | (simp [errW_none, errW_some] <;> rfl) | (simp [*, errW_none, errW_some] <;> rfl), bw w⟩
 ·
  replace c4 := Bool.eq_false_iff.mpr c4
  subst c4
  rw [if_neg (show ¬ (false = true) by decide)] at H
  obtain rfl := Option.some.inj H
  go_enter Tryd.func19, Tryd.ntmps19
  go_wp2_with (first | ((with_reducible refine gate_dst (N := 1) rfl ?_); refine bxE 1 26 #[.int .i64 a0_0, .int .i64 a0_1, .int .i64 a0_2, .int .i64 a0_3] (by rfl) (by rfl) (by first | (go_simp; done) | (go_simp; rfl)) ?_; intro gb450 hg w19 hbox hb; have BK450 := Bk.mk (hbox); have GE450 := eB w hg; replace HB := bS w hb; clear hb hbox hg; obtain ⟨hcz20_0, hcz20_1, hcz20_2, hcz20_3, hfz20_0, hfz20_1, hfz20_2, hfz20_3⟩ := cz4 BK450) | ((with_reducible refine gate_callee (f := 75) rfl ?_); refine goesLM (some 7) rfl rfl Tryd.func75 (by kernel_rfl) rfl #[.int .i64 a0_0] rfl (by rfl) ?_; (with_reducible refine (snowlineref01_Day.calls a0_0 false _ A2.out).mono ?_); rintro e w' ⟨rfl, ⟨nd, rfl⟩⟩; refine ⟨_, rfl, ?_⟩) | ((with_reducible refine gate_callee (f := 75) rfl ?_); refine goesLM (some 10) rfl rfl Tryd.func75 (by kernel_rfl) rfl #[.int .i64 a0_1] rfl (by rfl) ?_; (with_reducible refine (snowlineref01_Day.calls a0_1 t452 _ A3.out).mono ?_); rintro e w' ⟨rfl, ⟨nd, rfl⟩⟩; refine ⟨_, rfl, ?_⟩))
  go_ret
  exact ⟨by first | rfl | (simp [errW_none, errW_some] <;> rfl) | (simp [*, errW_none, errW_some] <;> rfl), bw w⟩
def snowlineref01_Number.f (a0 : Int) : Option (Bool) := if a0 ≥ 0 then (some (decide (a0 ≤ 4095))) else (some false)
set_option maxHeartbeats 8000000 in
set_option maxRecDepth 100000 in
theorem snowlineref01_Number.calls (a0 : Int) (r : Bool) (w : World) (h : snowlineref01_Number.f a0 = some r) :
  Calls Tryd.prog 94 #[.int .i64 a0] w fun e w' => e = .returned (.bool r) ∧ Drawn0 w w' := by
 have H : (if a0 ≥ 0 then (some (decide (a0 ≤ 4095))) else (some false)) = some r := h
 clear h
 by_cases c2 : a0 ≥ 0
 ·
  rw [if_pos c2] at H
  have c2b0 : decide (0 ≤ a0) = true := decide_eq_true c2
  clear c2
  obtain rfl := Option.some.inj H
  go_enter Tryd.func94, Tryd.ntmps94
  go_wp2
  go_ret
  exact ⟨by first | rfl | (simp; done) | (simp [*]; done), by repeat (first | exact Drawn0.refl _ | apply Drawn0.step)⟩
 ·
  rw [if_neg c2] at H
  have c2b0 : decide (0 ≤ a0) = false := decide_eq_false c2
  clear c2
  obtain rfl := Option.some.inj H
  go_enter Tryd.func94, Tryd.ntmps94
  go_wp2
  go_ret
  exact ⟨by first | rfl | (simp; done) | (simp [*]; done), by repeat (first | exact Drawn0.refl _ | apply Drawn0.step)⟩
mutual
def snowlineref01_valid.j0 : Nat → Bool → Int → Int → List (S26) → Option (Bool)
 | 0, _, _, _, _ => none
 | k + 1, x26, x454000, x454001, x454002 => if x26 = true then (some false) else (snowlineref01_valid.l0 k 0 x454000 x454001 x454002)
def snowlineref01_valid.l0 : Nat → Int → Int → Int → List (S26) → Option (Bool)
 | 0, _, _, _, _ => none
 | k + 1, x4, x454000, x454001, x454002 => if x4 < (x454002.length : Int) then (if 0 ≤ x4 then ((snowlineref01_CheckTest.f ((rd_T26 x454002 x4).f0) ((rd_T26 x454002 x4).f1) ((rd_T26 x454002 x4).f2) ((rd_T26 x454002 x4).f3)).bind fun t456 => (if t456 = 0 then (if x4 > 0 then (if 0 ≤ (wrap64 (x4 - 1)) then (if (wrap64 (x4 - 1)) < (x454002.length : Int) then (if ((rd_T26 x454002 (wrap64 (x4 - 1))).f1) > ((rd_T26 x454002 x4).f1) then (some false) else (snowlineref01_valid.l0 k (wrap64 (x4 + 1)) x454000 x454001 x454002)) else (none)) else (none)) else (snowlineref01_valid.l0 k (wrap64 (x4 + 1)) x454000 x454001 x454002)) else (some false))) else (none)) else (some true)
end
def snowlineref01_valid.f (k : Nat) (a0_0 : Int) (a0_1 : Int) (l0_2 : List (S26)) : Option (Bool) := (snowlineref01_Number.f a0_0).bind fun t454 => (if t454 = true then (if a0_1 < 0 then (snowlineref01_valid.j0 k true a0_0 a0_1 l0_2) else (if a0_1 > 1000 then (snowlineref01_valid.j0 k true a0_0 a0_1 l0_2) else (snowlineref01_valid.j0 k (decide ((l0_2.length : Int) > 64)) a0_0 a0_1 l0_2))) else (snowlineref01_valid.j0 k true a0_0 a0_1 l0_2))
set_option maxHeartbeats 8000000 in
set_option maxRecDepth 100000 in
theorem snowlineref01_valid.calls (k : Nat) (a0_0 : Int) (a0_1 : Int) (A0_2 : Option Addr) (c0_2 : Nat) (l0_2 : List (S26)) (r : Bool) (w : World) (hr0_2 : Kd.C k26 w A0_2 l0_2.length l0_2) (hc0_2 : l0_2.length ≤ c0_2) (h : snowlineref01_valid.f k a0_0 a0_1 l0_2 = some r) :
  Calls Tryd.prog 71 #[.agg #[.int .i64 a0_0, .int .i64 a0_1, .slice A0_2 l0_2.length c0_2]] w fun e w' => e = .returned (.bool r) ∧ Below w.heap.size w w' := by
 have hu24 := Tryd.underlying24
 have hu26 := Tryd.underlying26
 have HR0_2 := Aside0.mk (hr0_2)
 have HC0_2 := Aside0.mk (hc0_2)
 clear hr0_2 hc0_2
 have HB := Bw.mk (Below.refl w.heap.size w)
 have H : ((snowlineref01_Number.f a0_0).bind fun t454 => (if t454 = true then (if a0_1 < 0 then (snowlineref01_valid.j0 k true a0_0 a0_1 l0_2) else (if a0_1 > 1000 then (snowlineref01_valid.j0 k true a0_0 a0_1 l0_2) else (snowlineref01_valid.j0 k (decide ((l0_2.length : Int) > 64)) a0_0 a0_1 l0_2))) else (snowlineref01_valid.j0 k true a0_0 a0_1 l0_2))) = some r := h
 clear h
 replace H := Option.bind_eq_some_iff.mp H
 obtain ⟨t454, A20, H⟩ := H
 have A2 := Aside0.mk (A20)
 clear A20
 have HC3 := Aside0.mk (H)
 clear H
 go_enter Tryd.func71, Tryd.ntmps71
 go_upto_region 2 with (first | ((with_reducible refine gate_dst (N := 1) rfl ?_); (try (refine gate_guard (by rfl) ?_; dsimp only)); refine bxE 1 24 #[.int .i64 a0_0, .int .i64 a0_1, .slice A0_2 l0_2.length c0_2] (by rfl) (by rfl) (by first | (go_simp; done) | (go_simp; rfl)) ?_; intro gb453 hg w4 hbox hb; have BK453 := Bk.mk (hbox); have GE453 := eB w hg; replace HB := bS w hb; clear hb hbox hg; obtain ⟨hcz5_0, hcz5_1, hcz5_2, hfz5_0, hfz5_1, hfz5_2⟩ := cz3 BK453) | (go_at_call 94; (with_reducible refine (snowlineref01_Number.calls a0_0 t454 _ A2.out).mono ?_); rintro e w' ⟨rfl, ⟨nd, rfl⟩⟩; (try first | exact ⟨rfl, _, World.drewN_drewN _ _ _⟩ | exact ⟨rfl, _, Eq.trans (World.drewN_drewN _ _ _) (congrArg (World.drewN _) (Nat.add_assoc _ _ _))⟩)))
 repeat (go_quiet (first | ((with_reducible refine gate_dst (N := 1) rfl ?_); (try (refine gate_guard (by rfl) ?_; dsimp only)); refine bxE 1 24 #[.int .i64 a0_0, .int .i64 a0_1, .slice A0_2 l0_2.length c0_2] (by rfl) (by rfl) (by first | (go_simp; done) | (go_simp; rfl)) ?_; intro gb453 hg w4 hbox hb; have BK453 := Bk.mk (hbox); have GE453 := eB w hg; replace HB := bS w hb; clear hb hbox hg; obtain ⟨hcz5_0, hcz5_1, hcz5_2, hfz5_0, hfz5_1, hfz5_2⟩ := cz3 BK453) | (go_at_call 94; (with_reducible refine (snowlineref01_Number.calls a0_0 t454 _ A2.out).mono ?_); rintro e w' ⟨rfl, ⟨nd, rfl⟩⟩; (try first | exact ⟨rfl, _, World.drewN_drewN _ _ _⟩ | exact ⟨rfl, _, Eq.trans (World.drewN_drewN _ _ _) (congrArg (World.drewN _) (Nat.add_assoc _ _ _))⟩))); go_upto_region 2 with (first | ((with_reducible refine gate_dst (N := 1) rfl ?_); (try (refine gate_guard (by rfl) ?_; dsimp only)); refine bxE 1 24 #[.int .i64 a0_0, .int .i64 a0_1, .slice A0_2 l0_2.length c0_2] (by rfl) (by rfl) (by first | (go_simp; done) | (go_simp; rfl)) ?_; intro gb453 hg w4 hbox hb; have BK453 := Bk.mk (hbox); have GE453 := eB w hg; replace HB := bS w hb; clear hb hbox hg; obtain ⟨hcz5_0, hcz5_1, hcz5_2, hfz5_0, hfz5_1, hfz5_2⟩ := cz3 BK453) | (go_at_call 94; (with_reducible refine (snowlineref01_Number.calls a0_0 t454 _ A2.out).mono ?_); rintro e w' ⟨rfl, ⟨nd, rfl⟩⟩; (try first | exact ⟨rfl, _, World.drewN_drewN _ _ _⟩ | exact ⟨rfl, _, Eq.trans (World.drewN_drewN _ _ _) (congrArg (World.drewN _) (Nat.add_assoc _ _ _))⟩))))
 (try simp only [Act.put, List.setIfInBounds_toArray, List.set_cons_zero, List.set_cons_succ])
 go_cut [26] (fun v26 wc => ∃ (kq : Nat) (x26_2 : Bool), v26 = .bool x26_2 ∧ Aside0 (snowlineref01_valid.j0 kq x26_2 a0_0 a0_1 l0_2 = some r) ∧ Aside0 (kq ≤ k) ∧ Bk wc gb453 (.cells #[.int .i64 a0_0, .int .i64 a0_1, (.slice A0_2 l0_2.length c0_2)] 24 (0, 0)) ∧ Bw w wc)
 case first =>
  have H := HC3.out
  clear HC3
  by_cases c6 : t454 = true
  ·
   subst c6
   rw [if_pos rfl] at H
   by_cases c7 : a0_1 < 0
   ·
    rw [if_pos c7] at H
    have c7b0 : decide (a0_1 < 0) = true := decide_eq_true c7
    clear c7
    (first | rw [c7b0] | (simp only [i64_w]; rw [c7b0]) | skip)
    have H' := Aside0.mk H
    clear H
    obtain ⟨hcz8_0, hcz8_1, hcz8_2, hfz8_0, hfz8_1, hfz8_2⟩ := cz3 BK453
    go_wp2
    repeat (go_quiet (fail); try go_wp2)
    go_meet
    case rel => exact ⟨_, (true), (by first | rfl | (simp; done) | (simp [*]; done)), H', ⟨by first | omega | exact Nat.le_refl _⟩, inferInstance, inferInstance⟩
   ·
    rw [if_neg c7] at H
    have c7b0 : decide (a0_1 < 0) = false := decide_eq_false c7
    clear c7
    (first | rw [c7b0] | (simp only [i64_w]; rw [c7b0]) | skip)
    by_cases c9 : a0_1 > 1000
    ·
     rw [if_pos c9] at H
     have c9b0 : decide (1000 < a0_1) = true := decide_eq_true c9
     clear c9
     have H' := Aside0.mk H
     clear H
     obtain ⟨hcz10_0, hcz10_1, hcz10_2, hfz10_0, hfz10_1, hfz10_2⟩ := cz3 BK453
     go_wp2
     repeat (go_quiet (fail); try go_wp2)
     go_meet
     case rel => exact ⟨_, (true), (by first | rfl | (simp; done) | (simp [*]; done)), H', ⟨by first | omega | exact Nat.le_refl _⟩, inferInstance, inferInstance⟩
    ·
     rw [if_neg c9] at H
     have c9b0 : decide (1000 < a0_1) = false := decide_eq_false c9
     clear c9
     have H' := Aside0.mk H
     clear H
     obtain ⟨hcz11_0, hcz11_1, hcz11_2, hfz11_0, hfz11_1, hfz11_2⟩ := cz3 BK453
     go_wp2
     repeat (go_quiet (fail); try go_wp2)
     go_meet
     case rel => exact ⟨_, (decide ((l0_2.length : Int) > 64)), (by first | rfl | (simp; done) | (simp [*]; done)), H', ⟨by first | omega | exact Nat.le_refl _⟩, inferInstance, inferInstance⟩
  ·
   replace c6 := Bool.eq_false_iff.mpr c6
   subst c6
   rw [if_neg (show ¬ (false = true) by decide)] at H
   have H' := Aside0.mk H
   clear H
   go_wp2
   repeat (go_quiet (fail); try go_wp2)
   go_meet
   case rel => exact ⟨_, (true), (by first | rfl | (simp; done) | (simp [*]; done)), H', ⟨by first | omega | exact Nat.le_refl _⟩, inferInstance, inferInstance⟩
 case rest =>
  clear HC3
  try clear p2
  try clear c6
  try clear c7
  try clear c7b0
  try clear c9
  try clear c9b0
  obtain ⟨kq, x26_2, rfl, HA, HJ2, BK453, HB⟩ := hcut
  cases kq with
  | zero => exact absurd HA.out (by simp [snowlineref01_valid.j0])
  | succ kj2 =>
   have H := HA.out
   clear HA
   simp only [snowlineref01_valid.j0] at H
   by_cases c12 : x26_2 = true
   ·
    subst c12
    rw [if_pos rfl] at H
    obtain rfl := Option.some.inj H
    go_wp2
    repeat (go_quiet (fail); try go_wp2)
    go_ret
    exact ⟨by first | rfl | (simp [errW_none, errW_some] <;> rfl) | (simp [*, errW_none, errW_some] <;> rfl), bw w⟩
   ·
    replace c12 := Bool.eq_false_iff.mpr c12
    subst c12
    rw [if_neg (show ¬ (false = true) by decide)] at H
    have H' := Aside0.mk H
    clear H
    go_wp2
    repeat (go_quiet (fail); try go_wp2)
    go_loopg [4] kj2 (fun kq v4 w' => ∃ (x4_2 : Int), v4 = .int .i64 x4_2 ∧ Aside0 (snowlineref01_valid.l0 kq x4_2 a0_0 a0_1 l0_2 = some r) ∧ Aside0 (kq ≤ kj2) ∧ Bk w' gb453 (.cells #[.int .i64 a0_0, .int .i64 a0_1, (.slice A0_2 l0_2.length c0_2)] 24 (0, 0)) ∧ Bw w w')
    case atStart => exact ⟨(0), (by first | rfl | (simp; done) | (simp [*]; done)), H', ⟨Nat.le_refl _⟩, inferInstance, inferInstance⟩
    case round =>
     clear H'
     try clear c1
     try clear p2
     try clear c6
     try clear c7
     try clear c7b0
     try clear c9
     try clear c9b0
     try clear c12
     try clear p2
     obtain ⟨x4_2, rfl, HA, HK2, BK453, HB⟩ := hrel
     cases gk with
     | zero => exact absurd HA.out (by simp [snowlineref01_valid.l0])
     | succ k2 =>
      have H := HA.out
      clear HA
      simp only [snowlineref01_valid.l0] at H
      by_cases c13 : x4_2 < (l0_2.length : Int)
      ·
       rw [if_pos c13] at H
       have c13b0 : decide (x4_2 < (l0_2.length : Int)) = true := decide_eq_true c13
       clear c13
       by_cases c14 : 0 ≤ x4_2
       ·
        rw [if_pos c14] at H
        have c14b0 : decide (0 ≤ x4_2) = true := decide_eq_true c14
        clear c14
        replace H := Option.bind_eq_some_iff.mp H
        obtain ⟨t456, A150, H⟩ := H
        have A15 := Aside0.mk (A150)
        clear A150
        by_cases c16 : t456 = 0
        ·
         rw [if_pos c16] at H
         have c16b0 : (t456 == 0) = true := beq_iff_eq.mpr c16
         have c16b1 : (t456 != 0) = false := bne_eq_false_iff_eq.mpr c16
         clear c16
         by_cases c17 : x4_2 > 0
         ·
          rw [if_pos c17] at H
          have c17b0 : decide (0 < x4_2) = true := decide_eq_true c17
          clear c17
          obtain ⟨ji18, hji18⟩ : ∃ j_ : Int, (wrap64 (x4_2 - 1)) = j_ := ⟨_, rfl⟩
          replace H : (if 0 ≤ (ji18) then (if (ji18) < (l0_2.length : Int) then (if ((rd_T26 l0_2 (ji18)).f1) > ((rd_T26 l0_2 x4_2).f1) then (some false) else (snowlineref01_valid.l0 k2 (wrap64 (x4_2 + 1)) a0_0 a0_1 l0_2)) else (none)) else (none)) = some r := by first | (rw [hji18] at H; exact H) | (simp only [hji18] at H ⊢; exact H)
          (try rw [hji18] at A15)
          have hji18w : (IntKind.i64.wrap (x4_2 - 1)) = ji18 := (i64_w _).trans hji18
          by_cases c19 : 0 ≤ (ji18)
          ·
           rw [if_pos c19] at H
           have c19b0 : decide (0 ≤ (ji18)) = true := decide_eq_true c19
           clear c19
           by_cases c20 : (ji18) < (l0_2.length : Int)
           ·
            rw [if_pos c20] at H
            have c20b0 : decide ((ji18) < (l0_2.length : Int)) = true := decide_eq_true c20
            clear c20
            by_cases c21 : ((rd_T26 l0_2 (ji18)).f1) > ((rd_T26 l0_2 x4_2).f1)
            ·
             rw [if_pos c21] at H
             have c21b0 : decide (((rd_T26 l0_2 x4_2).f1) < ((rd_T26 l0_2 (ji18)).f1)) = true := decide_eq_true c21
             clear c21
             obtain rfl := Option.some.inj H
             obtain ⟨hcz22_0, hcz22_1, hcz22_2, hfz22_0, hfz22_1, hfz22_2⟩ := cz3 BK453
             have p455 : 0 ≤ (x4_2 : Int) := of_decide_eq_true (by first | (with_reducible assumption) | assumption)
             have q455 : x4_2 < (l0_2.length : Int) := of_decide_eq_true (by first | (with_reducible assumption) | assumption)
             obtain ⟨ad455, e455, hx455_0, hx455_1, hx455_2, hx455_3⟩ := at_T26 HR0_2.out x4_2 p455 q455
             cases e455
             replace hx455_0 := cB HB hx455_0
             replace hx455_1 := cB HB hx455_1
             replace hx455_2 := cB HB hx455_2
             replace hx455_3 := cB HB hx455_3
             replace p455 := eq_true p455
             replace q455 := eq_true q455
             go_wp2_with (first | (go_at_call 19; (with_reducible refine (snowlineref01_CheckTest.calls ((rd_T26 l0_2 x4_2).f0) ((rd_T26 l0_2 x4_2).f1) ((rd_T26 l0_2 x4_2).f2) ((rd_T26 l0_2 x4_2).f3) t456 _ A15.out).mono ?_); rintro e w23 ⟨rfl, hb⟩; replace BK453 := kB gb453 hb; replace HB := bS w hb; (try clear hb); obtain ⟨hcz24_0, hcz24_1, hcz24_2, hfz24_0, hfz24_1, hfz24_2⟩ := cz3 BK453; have p457 : 0 ≤ ((ji18) : Int) := of_decide_eq_true (by first | (with_reducible assumption) | assumption); have q457 : (ji18) < (l0_2.length : Int) := of_decide_eq_true (by first | (with_reducible assumption) | assumption); obtain ⟨ad457, e457, hx457_0, hx457_1, hx457_2, hx457_3⟩ := at_T26 HR0_2.out (ji18) p457 q457; obtain rfl : ad455 = ad457 := (by injection e457); replace hx457_0 := cB HB hx457_0; replace hx457_1 := cB HB hx457_1; replace hx457_2 := cB HB hx457_2; replace hx457_3 := cB HB hx457_3; replace p457 := eq_true p457; replace q457 := eq_true q457; have p458 : 0 ≤ (x4_2 : Int) := of_decide_eq_true (by first | (with_reducible assumption) | assumption); have q458 : x4_2 < (l0_2.length : Int) := of_decide_eq_true (by first | (with_reducible assumption) | assumption); obtain ⟨ad458, e458, hx458_0, hx458_1, hx458_2, hx458_3⟩ := at_T26 HR0_2.out x4_2 p458 q458; obtain rfl : ad455 = ad458 := (by injection e458); replace hx458_0 := cB HB hx458_0; replace hx458_1 := cB HB hx458_1; replace hx458_2 := cB HB hx458_2; replace hx458_3 := cB HB hx458_3; replace p458 := eq_true p458; replace q458 := eq_true q458))
             repeat (go_quiet (first | (go_at_call 19; (with_reducible refine (snowlineref01_CheckTest.calls ((rd_T26 l0_2 x4_2).f0) ((rd_T26 l0_2 x4_2).f1) ((rd_T26 l0_2 x4_2).f2) ((rd_T26 l0_2 x4_2).f3) t456 _ A15.out).mono ?_); rintro e w23 ⟨rfl, hb⟩; replace BK453 := kB gb453 hb; replace HB := bS w hb; (try clear hb); obtain ⟨hcz24_0, hcz24_1, hcz24_2, hfz24_0, hfz24_1, hfz24_2⟩ := cz3 BK453; have p457 : 0 ≤ ((ji18) : Int) := of_decide_eq_true (by first | (with_reducible assumption) | assumption); have q457 : (ji18) < (l0_2.length : Int) := of_decide_eq_true (by first | (with_reducible assumption) | assumption); obtain ⟨ad457, e457, hx457_0, hx457_1, hx457_2, hx457_3⟩ := at_T26 HR0_2.out (ji18) p457 q457; obtain rfl : ad455 = ad457 := (by injection e457); replace hx457_0 := cB HB hx457_0; replace hx457_1 := cB HB hx457_1; replace hx457_2 := cB HB hx457_2; replace hx457_3 := cB HB hx457_3; replace p457 := eq_true p457; replace q457 := eq_true q457; have p458 : 0 ≤ (x4_2 : Int) := of_decide_eq_true (by first | (with_reducible assumption) | assumption); have q458 : x4_2 < (l0_2.length : Int) := of_decide_eq_true (by first | (with_reducible assumption) | assumption); obtain ⟨ad458, e458, hx458_0, hx458_1, hx458_2, hx458_3⟩ := at_T26 HR0_2.out x4_2 p458 q458; obtain rfl : ad455 = ad458 := (by injection e458); replace hx458_0 := cB HB hx458_0; replace hx458_1 := cB HB hx458_1; replace hx458_2 := cB HB hx458_2; replace hx458_3 := cB HB hx458_3; replace p458 := eq_true p458; replace q458 := eq_true q458)); try go_wp2_with (first | (go_at_call 19; (with_reducible refine (snowlineref01_CheckTest.calls ((rd_T26 l0_2 x4_2).f0) ((rd_T26 l0_2 x4_2).f1) ((rd_T26 l0_2 x4_2).f2) ((rd_T26 l0_2 x4_2).f3) t456 _ A15.out).mono ?_); rintro e w23 ⟨rfl, hb⟩; replace BK453 := kB gb453 hb; replace HB := bS w hb; (try clear hb); obtain ⟨hcz24_0, hcz24_1, hcz24_2, hfz24_0, hfz24_1, hfz24_2⟩ := cz3 BK453; have p457 : 0 ≤ ((ji18) : Int) := of_decide_eq_true (by first | (with_reducible assumption) | assumption); have q457 : (ji18) < (l0_2.length : Int) := of_decide_eq_true (by first | (with_reducible assumption) | assumption); obtain ⟨ad457, e457, hx457_0, hx457_1, hx457_2, hx457_3⟩ := at_T26 HR0_2.out (ji18) p457 q457; obtain rfl : ad455 = ad457 := (by injection e457); replace hx457_0 := cB HB hx457_0; replace hx457_1 := cB HB hx457_1; replace hx457_2 := cB HB hx457_2; replace hx457_3 := cB HB hx457_3; replace p457 := eq_true p457; replace q457 := eq_true q457; have p458 : 0 ≤ (x4_2 : Int) := of_decide_eq_true (by first | (with_reducible assumption) | assumption); have q458 : x4_2 < (l0_2.length : Int) := of_decide_eq_true (by first | (with_reducible assumption) | assumption); obtain ⟨ad458, e458, hx458_0, hx458_1, hx458_2, hx458_3⟩ := at_T26 HR0_2.out x4_2 p458 q458; obtain rfl : ad455 = ad458 := (by injection e458); replace hx458_0 := cB HB hx458_0; replace hx458_1 := cB HB hx458_1; replace hx458_2 := cB HB hx458_2; replace hx458_3 := cB HB hx458_3; replace p458 := eq_true p458; replace q458 := eq_true q458)))
             go_ret
             exact ⟨by first | rfl | (simp [errW_none, errW_some] <;> rfl) | (simp only [← hji18]; first | rfl | (simp [errW_none, errW_some] <;> rfl)) | (simp [*, errW_none, errW_some] <;> rfl), bw w⟩
            ·
             rw [if_neg c21] at H
             have c21b0 : decide (((rd_T26 l0_2 x4_2).f1) < ((rd_T26 l0_2 (ji18)).f1)) = false := decide_eq_false c21
             clear c21
             have H' := Aside0.mk H
             clear H
             obtain ⟨hcz25_0, hcz25_1, hcz25_2, hfz25_0, hfz25_1, hfz25_2⟩ := cz3 BK453
             have p455 : 0 ≤ (x4_2 : Int) := of_decide_eq_true (by first | (with_reducible assumption) | assumption)
             have q455 : x4_2 < (l0_2.length : Int) := of_decide_eq_true (by first | (with_reducible assumption) | assumption)
             obtain ⟨ad455, e455, hx455_0, hx455_1, hx455_2, hx455_3⟩ := at_T26 HR0_2.out x4_2 p455 q455
             cases e455
             replace hx455_0 := cB HB hx455_0
             replace hx455_1 := cB HB hx455_1
             replace hx455_2 := cB HB hx455_2
             replace hx455_3 := cB HB hx455_3
             replace p455 := eq_true p455
             replace q455 := eq_true q455
             go_wp2_with (first | (go_at_call 19; (with_reducible refine (snowlineref01_CheckTest.calls ((rd_T26 l0_2 x4_2).f0) ((rd_T26 l0_2 x4_2).f1) ((rd_T26 l0_2 x4_2).f2) ((rd_T26 l0_2 x4_2).f3) t456 _ A15.out).mono ?_); rintro e w26 ⟨rfl, hb⟩; replace BK453 := kB gb453 hb; replace HB := bS w hb; (try clear hb); obtain ⟨hcz27_0, hcz27_1, hcz27_2, hfz27_0, hfz27_1, hfz27_2⟩ := cz3 BK453; have p457 : 0 ≤ ((ji18) : Int) := of_decide_eq_true (by first | (with_reducible assumption) | assumption); have q457 : (ji18) < (l0_2.length : Int) := of_decide_eq_true (by first | (with_reducible assumption) | assumption); obtain ⟨ad457, e457, hx457_0, hx457_1, hx457_2, hx457_3⟩ := at_T26 HR0_2.out (ji18) p457 q457; obtain rfl : ad455 = ad457 := (by injection e457); replace hx457_0 := cB HB hx457_0; replace hx457_1 := cB HB hx457_1; replace hx457_2 := cB HB hx457_2; replace hx457_3 := cB HB hx457_3; replace p457 := eq_true p457; replace q457 := eq_true q457; have p458 : 0 ≤ (x4_2 : Int) := of_decide_eq_true (by first | (with_reducible assumption) | assumption); have q458 : x4_2 < (l0_2.length : Int) := of_decide_eq_true (by first | (with_reducible assumption) | assumption); obtain ⟨ad458, e458, hx458_0, hx458_1, hx458_2, hx458_3⟩ := at_T26 HR0_2.out x4_2 p458 q458; obtain rfl : ad455 = ad458 := (by injection e458); replace hx458_0 := cB HB hx458_0; replace hx458_1 := cB HB hx458_1; replace hx458_2 := cB HB hx458_2; replace hx458_3 := cB HB hx458_3; replace p458 := eq_true p458; replace q458 := eq_true q458))
             repeat (go_quiet (first | (go_at_call 19; (with_reducible refine (snowlineref01_CheckTest.calls ((rd_T26 l0_2 x4_2).f0) ((rd_T26 l0_2 x4_2).f1) ((rd_T26 l0_2 x4_2).f2) ((rd_T26 l0_2 x4_2).f3) t456 _ A15.out).mono ?_); rintro e w26 ⟨rfl, hb⟩; replace BK453 := kB gb453 hb; replace HB := bS w hb; (try clear hb); obtain ⟨hcz27_0, hcz27_1, hcz27_2, hfz27_0, hfz27_1, hfz27_2⟩ := cz3 BK453; have p457 : 0 ≤ ((ji18) : Int) := of_decide_eq_true (by first | (with_reducible assumption) | assumption); have q457 : (ji18) < (l0_2.length : Int) := of_decide_eq_true (by first | (with_reducible assumption) | assumption); obtain ⟨ad457, e457, hx457_0, hx457_1, hx457_2, hx457_3⟩ := at_T26 HR0_2.out (ji18) p457 q457; obtain rfl : ad455 = ad457 := (by injection e457); replace hx457_0 := cB HB hx457_0; replace hx457_1 := cB HB hx457_1; replace hx457_2 := cB HB hx457_2; replace hx457_3 := cB HB hx457_3; replace p457 := eq_true p457; replace q457 := eq_true q457; have p458 : 0 ≤ (x4_2 : Int) := of_decide_eq_true (by first | (with_reducible assumption) | assumption); have q458 : x4_2 < (l0_2.length : Int) := of_decide_eq_true (by first | (with_reducible assumption) | assumption); obtain ⟨ad458, e458, hx458_0, hx458_1, hx458_2, hx458_3⟩ := at_T26 HR0_2.out x4_2 p458 q458; obtain rfl : ad455 = ad458 := (by injection e458); replace hx458_0 := cB HB hx458_0; replace hx458_1 := cB HB hx458_1; replace hx458_2 := cB HB hx458_2; replace hx458_3 := cB HB hx458_3; replace p458 := eq_true p458; replace q458 := eq_true q458)); try go_wp2_with (first | (go_at_call 19; (with_reducible refine (snowlineref01_CheckTest.calls ((rd_T26 l0_2 x4_2).f0) ((rd_T26 l0_2 x4_2).f1) ((rd_T26 l0_2 x4_2).f2) ((rd_T26 l0_2 x4_2).f3) t456 _ A15.out).mono ?_); rintro e w26 ⟨rfl, hb⟩; replace BK453 := kB gb453 hb; replace HB := bS w hb; (try clear hb); obtain ⟨hcz27_0, hcz27_1, hcz27_2, hfz27_0, hfz27_1, hfz27_2⟩ := cz3 BK453; have p457 : 0 ≤ ((ji18) : Int) := of_decide_eq_true (by first | (with_reducible assumption) | assumption); have q457 : (ji18) < (l0_2.length : Int) := of_decide_eq_true (by first | (with_reducible assumption) | assumption); obtain ⟨ad457, e457, hx457_0, hx457_1, hx457_2, hx457_3⟩ := at_T26 HR0_2.out (ji18) p457 q457; obtain rfl : ad455 = ad457 := (by injection e457); replace hx457_0 := cB HB hx457_0; replace hx457_1 := cB HB hx457_1; replace hx457_2 := cB HB hx457_2; replace hx457_3 := cB HB hx457_3; replace p457 := eq_true p457; replace q457 := eq_true q457; have p458 : 0 ≤ (x4_2 : Int) := of_decide_eq_true (by first | (with_reducible assumption) | assumption); have q458 : x4_2 < (l0_2.length : Int) := of_decide_eq_true (by first | (with_reducible assumption) | assumption); obtain ⟨ad458, e458, hx458_0, hx458_1, hx458_2, hx458_3⟩ := at_T26 HR0_2.out x4_2 p458 q458; obtain rfl : ad455 = ad458 := (by injection e458); replace hx458_0 := cB HB hx458_0; replace hx458_1 := cB HB hx458_1; replace hx458_2 := cB HB hx458_2; replace hx458_3 := cB HB hx458_3; replace p458 := eq_true p458; replace q458 := eq_true q458)))
             go_roundg k2
             case measure => have := HJ2.out; have := HK2.out; omega
             case rel => exact ⟨(wrap64 (x4_2 + 1)), (by first | rfl | (simp; done) | (simp [*]; done)), H', ⟨by have := HJ2.out; have := HK2.out; omega⟩, inferInstance, inferInstance⟩
           ·
            rw [if_neg c20] at H
            exact absurd H (by simp)
          ·
           rw [if_neg c19] at H
           exact absurd H (by simp)
         ·
          rw [if_neg c17] at H
          have c17b0 : decide (0 < x4_2) = false := decide_eq_false c17
          clear c17
          have H' := Aside0.mk H
          clear H
          obtain ⟨hcz28_0, hcz28_1, hcz28_2, hfz28_0, hfz28_1, hfz28_2⟩ := cz3 BK453
          have p455 : 0 ≤ (x4_2 : Int) := of_decide_eq_true (by first | (with_reducible assumption) | assumption)
          have q455 : x4_2 < (l0_2.length : Int) := of_decide_eq_true (by first | (with_reducible assumption) | assumption)
          obtain ⟨ad455, e455, hx455_0, hx455_1, hx455_2, hx455_3⟩ := at_T26 HR0_2.out x4_2 p455 q455
          cases e455
          replace hx455_0 := cB HB hx455_0
          replace hx455_1 := cB HB hx455_1
          replace hx455_2 := cB HB hx455_2
          replace hx455_3 := cB HB hx455_3
          replace p455 := eq_true p455
          replace q455 := eq_true q455
          go_wp2_with (first | (go_at_call 19; (with_reducible refine (snowlineref01_CheckTest.calls ((rd_T26 l0_2 x4_2).f0) ((rd_T26 l0_2 x4_2).f1) ((rd_T26 l0_2 x4_2).f2) ((rd_T26 l0_2 x4_2).f3) t456 _ A15.out).mono ?_); rintro e w29 ⟨rfl, hb⟩; replace BK453 := kB gb453 hb; replace HB := bS w hb; (try clear hb)))
          repeat (go_quiet (first | (go_at_call 19; (with_reducible refine (snowlineref01_CheckTest.calls ((rd_T26 l0_2 x4_2).f0) ((rd_T26 l0_2 x4_2).f1) ((rd_T26 l0_2 x4_2).f2) ((rd_T26 l0_2 x4_2).f3) t456 _ A15.out).mono ?_); rintro e w29 ⟨rfl, hb⟩; replace BK453 := kB gb453 hb; replace HB := bS w hb; (try clear hb))); try go_wp2_with (first | (go_at_call 19; (with_reducible refine (snowlineref01_CheckTest.calls ((rd_T26 l0_2 x4_2).f0) ((rd_T26 l0_2 x4_2).f1) ((rd_T26 l0_2 x4_2).f2) ((rd_T26 l0_2 x4_2).f3) t456 _ A15.out).mono ?_); rintro e w29 ⟨rfl, hb⟩; replace BK453 := kB gb453 hb; replace HB := bS w hb; (try clear hb))))
          go_roundg k2
          case measure => have := HJ2.out; have := HK2.out; omega
          case rel => exact ⟨(wrap64 (x4_2 + 1)), (by first | rfl | (simp; done) | (simp [*]; done)), H', ⟨by have := HJ2.out; have := HK2.out; omega⟩, inferInstance, inferInstance⟩
        ·
         rw [if_neg c16] at H
         have c16b0 : (t456 == 0) = false := beq_eq_false_iff_ne.mpr c16
         have c16b1 : (t456 != 0) = true := bne_iff_ne.mpr c16
         obtain rfl := Option.some.inj H
         obtain ⟨hcz30_0, hcz30_1, hcz30_2, hfz30_0, hfz30_1, hfz30_2⟩ := cz3 BK453
         have p455 : 0 ≤ (x4_2 : Int) := of_decide_eq_true (by first | (with_reducible assumption) | assumption)
         have q455 : x4_2 < (l0_2.length : Int) := of_decide_eq_true (by first | (with_reducible assumption) | assumption)
         obtain ⟨ad455, e455, hx455_0, hx455_1, hx455_2, hx455_3⟩ := at_T26 HR0_2.out x4_2 p455 q455
         cases e455
         replace hx455_0 := cB HB hx455_0
         replace hx455_1 := cB HB hx455_1
         replace hx455_2 := cB HB hx455_2
         replace hx455_3 := cB HB hx455_3
         replace p455 := eq_true p455
         replace q455 := eq_true q455
         go_wp2_with (first | (go_at_call 19; (with_reducible refine (snowlineref01_CheckTest.calls ((rd_T26 l0_2 x4_2).f0) ((rd_T26 l0_2 x4_2).f1) ((rd_T26 l0_2 x4_2).f2) ((rd_T26 l0_2 x4_2).f3) t456 _ A15.out).mono ?_); rintro e w31 ⟨rfl, hb⟩; replace BK453 := kB gb453 hb; replace HB := bS w hb; (try clear hb)))
         repeat (go_quiet (first | (go_at_call 19; (with_reducible refine (snowlineref01_CheckTest.calls ((rd_T26 l0_2 x4_2).f0) ((rd_T26 l0_2 x4_2).f1) ((rd_T26 l0_2 x4_2).f2) ((rd_T26 l0_2 x4_2).f3) t456 _ A15.out).mono ?_); rintro e w31 ⟨rfl, hb⟩; replace BK453 := kB gb453 hb; replace HB := bS w hb; (try clear hb))); try go_wp2_with (first | (go_at_call 19; (with_reducible refine (snowlineref01_CheckTest.calls ((rd_T26 l0_2 x4_2).f0) ((rd_T26 l0_2 x4_2).f1) ((rd_T26 l0_2 x4_2).f2) ((rd_T26 l0_2 x4_2).f3) t456 _ A15.out).mono ?_); rintro e w31 ⟨rfl, hb⟩; replace BK453 := kB gb453 hb; replace HB := bS w hb; (try clear hb))))
         go_ret
         exact ⟨by first | rfl | (simp [errW_none, errW_some] <;> rfl) | (simp [*, errW_none, errW_some] <;> rfl), bw w⟩
       ·
        rw [if_neg c14] at H
        exact absurd H (by simp)
      ·
       rw [if_neg c13] at H
       have c13b0 : decide (x4_2 < (l0_2.length : Int)) = false := decide_eq_false c13
       clear c13
       obtain rfl := Option.some.inj H
       obtain ⟨hcz32_0, hcz32_1, hcz32_2, hfz32_0, hfz32_1, hfz32_2⟩ := cz3 BK453
       go_wp2
       repeat (go_quiet (fail); try go_wp2)
       go_ret
       exact ⟨by first | rfl | (simp [errW_none, errW_some] <;> rfl) | (simp [*, errW_none, errW_some] <;> rfl), bw w⟩
def snowlineref01_far.f (a0 : Int) (a1 : Int) : Option (Int) := if a0 < a1 then (some (wrap64 (a1 - a0))) else (some (wrap64 (a0 - a1)))
set_option maxHeartbeats 8000000 in
set_option maxRecDepth 100000 in
theorem snowlineref01_far.calls (a0 : Int) (a1 : Int) (r : Int) (w : World) (h : snowlineref01_far.f a0 a1 = some r) :
  Calls Tryd.prog 103 #[.int .i64 a0, .int .i64 a1] w fun e w' => e = .returned (.int .i64 r) ∧ Drawn0 w w' := by
 have H : (if a0 < a1 then (some (wrap64 (a1 - a0))) else (some (wrap64 (a0 - a1)))) = some r := h
 clear h
 by_cases c3 : a0 < a1
 ·
  rw [if_pos c3] at H
  have c3b0 : decide (a0 < a1) = true := decide_eq_true c3
  clear c3
  obtain rfl := Option.some.inj H
  go_enter Tryd.func103, Tryd.ntmps103
  go_wp2
  go_ret
  exact ⟨by first | rfl | (simp; done) | (simp [*]; done), by repeat (first | exact Drawn0.refl _ | apply Drawn0.step)⟩
 ·
  rw [if_neg c3] at H
  have c3b0 : decide (a0 < a1) = false := decide_eq_false c3
  clear c3
  obtain rfl := Option.some.inj H
  go_enter Tryd.func103, Tryd.ntmps103
  go_wp2
  go_ret
  exact ⟨by first | rfl | (simp; done) | (simp [*]; done), by repeat (first | exact Drawn0.refl _ | apply Drawn0.step)⟩
def snowlineref01_apart.f (a0 : Int) (a1_0 : Int) (a1_1 : Int) (a1_2 : Int) (a1_3 : Int) (a2_0 : Int) (a2_1 : Int) (a2_2 : Int) (a2_3 : Int) : Option (Bool) := (snowlineref01_far.f a1_0 a2_0).bind fun t461 => (if (wrap64 (a1_2 - a2_3)) > (wrap64 (a0 * t461)) then (some true) else (some (decide ((wrap64 (a2_2 - a1_3)) > (wrap64 (a0 * t461))))))
set_option maxHeartbeats 8000000 in
set_option maxRecDepth 100000 in
theorem snowlineref01_apart.calls (a0 : Int) (a1_0 : Int) (a1_1 : Int) (a1_2 : Int) (a1_3 : Int) (a2_0 : Int) (a2_1 : Int) (a2_2 : Int) (a2_3 : Int) (r : Bool) (w : World) (h : snowlineref01_apart.f a0 a1_0 a1_1 a1_2 a1_3 a2_0 a2_1 a2_2 a2_3 = some r) :
  Calls Tryd.prog 128 #[.int .i64 a0, .agg #[.int .i64 a1_0, .int .i64 a1_1, .int .i64 a1_2, .int .i64 a1_3], .agg #[.int .i64 a2_0, .int .i64 a2_1, .int .i64 a2_2, .int .i64 a2_3]] w fun e w' => e = .returned (.bool r) ∧ Below w.heap.size w w' := by
 have hu26 := Tryd.underlying26
 have HB := Bw.mk (Below.refl w.heap.size w)
 have H : ((snowlineref01_far.f a1_0 a2_0).bind fun t461 => (if (wrap64 (a1_2 - a2_3)) > (wrap64 (a0 * t461)) then (some true) else (some (decide ((wrap64 (a2_2 - a1_3)) > (wrap64 (a0 * t461))))))) = some r := h
 clear h
 replace H := Option.bind_eq_some_iff.mp H
 obtain ⟨t461, A40, H⟩ := H
 have A4 := Aside0.mk (A40)
 clear A40
 by_cases c5 : (wrap64 (a1_2 - a2_3)) > (wrap64 (a0 * t461))
 ·
  rw [if_pos c5] at H
  have c5b0 : decide ((wrap64 (a0 * t461)) < (wrap64 (a1_2 - a2_3))) = true := decide_eq_true c5
  clear c5
  obtain rfl := Option.some.inj H
  go_enter Tryd.func128, Tryd.ntmps128
  go_wp2_with (first | ((with_reducible refine gate_dst (N := 4) rfl ?_); refine bxE 4 26 #[.int .i64 a1_0, .int .i64 a1_1, .int .i64 a1_2, .int .i64 a1_3] (by rfl) (by rfl) (by first | (go_simp; done) | (go_simp; rfl)) ?_; intro gb459 hg w6 hbox hb; have BK459 := Bk.mk (hbox); have GE459 := eB w hg; replace HB := bS w hb; clear hb hbox hg) | ((with_reducible refine gate_dst (N := 5) rfl ?_); refine bxE 5 26 #[.int .i64 a2_0, .int .i64 a2_1, .int .i64 a2_2, .int .i64 a2_3] (by rfl) (by rfl) (by first | (go_simp; done) | (go_simp; rfl)) ?_; intro gb460 hg w7 hbox hb; have BK460 := Bk.mk (hbox); have GE460 := eB w hg; replace BK459 := kB gb459 hb; replace HB := bS w hb; clear hb hbox hg; obtain ⟨hcz9_0, hcz9_1, hcz9_2, hcz9_3, hfz9_0, hfz9_1, hfz9_2, hfz9_3⟩ := cz4 BK459; obtain ⟨hcz10_0, hcz10_1, hcz10_2, hcz10_3, hfz10_0, hfz10_1, hfz10_2, hfz10_3⟩ := cz4 BK460) | ((with_reducible refine gate_callee (f := 103) rfl ?_); refine goesLM (some 13) rfl rfl Tryd.func103 (by kernel_rfl) rfl #[.int .i64 a1_0, .int .i64 a2_0] rfl (by rfl) ?_; (with_reducible refine (snowlineref01_far.calls a1_0 a2_0 t461 _ A4.out).mono ?_); rintro e w' ⟨rfl, ⟨nd, rfl⟩⟩; refine ⟨_, rfl, ?_⟩))
  go_ret
  exact ⟨by first | rfl | (simp [errW_none, errW_some] <;> rfl) | (simp [*, errW_none, errW_some] <;> rfl), bw w⟩
 ·
  rw [if_neg c5] at H
  have c5b0 : decide ((wrap64 (a0 * t461)) < (wrap64 (a1_2 - a2_3))) = false := decide_eq_false c5
  clear c5
  obtain rfl := Option.some.inj H
  go_enter Tryd.func128, Tryd.ntmps128
  go_wp2_with (first | ((with_reducible refine gate_dst (N := 4) rfl ?_); refine bxE 4 26 #[.int .i64 a1_0, .int .i64 a1_1, .int .i64 a1_2, .int .i64 a1_3] (by rfl) (by rfl) (by first | (go_simp; done) | (go_simp; rfl)) ?_; intro gb459 hg w11 hbox hb; have BK459 := Bk.mk (hbox); have GE459 := eB w hg; replace HB := bS w hb; clear hb hbox hg) | ((with_reducible refine gate_dst (N := 5) rfl ?_); refine bxE 5 26 #[.int .i64 a2_0, .int .i64 a2_1, .int .i64 a2_2, .int .i64 a2_3] (by rfl) (by rfl) (by first | (go_simp; done) | (go_simp; rfl)) ?_; intro gb460 hg w12 hbox hb; have BK460 := Bk.mk (hbox); have GE460 := eB w hg; replace BK459 := kB gb459 hb; replace HB := bS w hb; clear hb hbox hg; obtain ⟨hcz14_0, hcz14_1, hcz14_2, hcz14_3, hfz14_0, hfz14_1, hfz14_2, hfz14_3⟩ := cz4 BK459; obtain ⟨hcz15_0, hcz15_1, hcz15_2, hcz15_3, hfz15_0, hfz15_1, hfz15_2, hfz15_3⟩ := cz4 BK460) | ((with_reducible refine gate_callee (f := 103) rfl ?_); refine goesLM (some 13) rfl rfl Tryd.func103 (by kernel_rfl) rfl #[.int .i64 a1_0, .int .i64 a2_0] rfl (by rfl) ?_; (with_reducible refine (snowlineref01_far.calls a1_0 a2_0 t461 _ A4.out).mono ?_); rintro e w' ⟨rfl, ⟨nd, rfl⟩⟩; refine ⟨_, rfl, ?_⟩))
  go_ret
  exact ⟨by first | rfl | (simp [errW_none, errW_some] <;> rfl) | (simp [*, errW_none, errW_some] <;> rfl), bw w⟩
mutual
def snowlineref01_pair.l0 : Nat → Int → Int → Int → List (S26) → Option (Int × Int × Bool)
 | 0, _, _, _, _ => none
 | k + 1, x4, x463000, x463001, x463002 => if x4 < (x463002.length : Int) then (snowlineref01_pair.l1 k x4 (wrap64 (x4 + 1)) x463000 x463001 x463002) else (some (0, 0, false))
def snowlineref01_pair.l1 : Nat → Int → Int → Int → Int → List (S26) → Option (Int × Int × Bool)
 | 0, _, _, _, _, _ => none
 | k + 1, x4, x5, x463000, x463001, x463002 => if x5 < (x463002.length : Int) then (if 0 ≤ x4 then (if x4 < (x463002.length : Int) then (if 0 ≤ x5 then ((snowlineref01_apart.f x463001 ((rd_T26 x463002 x4).f0) ((rd_T26 x463002 x4).f1) ((rd_T26 x463002 x4).f2) ((rd_T26 x463002 x4).f3) ((rd_T26 x463002 x5).f0) ((rd_T26 x463002 x5).f1) ((rd_T26 x463002 x5).f2) ((rd_T26 x463002 x5).f3)).bind fun t466 => (if t466 = true then (some (x4, x5, true)) else (snowlineref01_pair.l1 k x4 (wrap64 (x5 + 1)) x463000 x463001 x463002))) else (none)) else (none)) else (none)) else (snowlineref01_pair.l0 k (wrap64 (x4 + 1)) x463000 x463001 x463002)
end
def snowlineref01_pair.f (k : Nat) (a0_0 : Int) (a0_1 : Int) (l0_2 : List (S26)) : Option (Int × Int × Bool) := snowlineref01_pair.l0 k 0 a0_0 a0_1 l0_2
def snowlineref01_pair.T7 : Bool × List (List Nat × List Nat) := (true, [([], []), ([0], [0]), ([], []), ([2], [2]), ([], []), ([3, 4], [3, 4]), ([5], [5]), ([], []), ([7], [7]), ([], []), ([8, 9], [8, 9]), ([10], [10]), ([1, 6, 11], [1, 6, 11]), ([12, 12, 0, 1, 2, 3, 4, 5, 6, 7, 8, 9, 10, 11, 12], [12])])
def snowlineref01_pair.B7 : List Nat := [0, 1, 0, 4, 0, 28, 60, 0, 128, 0, 896, 1920, 4095, 8191]
theorem snowlineref01_pair.tab7 : rtab .any (opsOf Tryd.f72 7) = snowlineref01_pair.T7 := by kernel_rfl
theorem snowlineref01_pair.bits7 : waitsOk snowlineref01_pair.T7.2 snowlineref01_pair.B7 = true := by kernel_rfl
set_option maxHeartbeats 8000000 in
set_option maxRecDepth 100000 in
theorem snowlineref01_pair.calls (k : Nat) (a0_0 : Int) (a0_1 : Int) (A0_2 : Option Addr) (c0_2 : Nat) (l0_2 : List (S26)) (r1 : Int) (r2 : Int) (r3 : Bool) (w : World) (hr0_2 : Kd.C k26 w A0_2 l0_2.length l0_2) (hc0_2 : l0_2.length ≤ c0_2) (h : snowlineref01_pair.f k a0_0 a0_1 l0_2 = some (r1, r2, r3)) :
  Calls Tryd.prog 72 #[.agg #[.int .i64 a0_0, .int .i64 a0_1, .slice A0_2 l0_2.length c0_2]] w fun e w' => e = .returned (.tuple #[.agg #[.int .i64 r1, .int .i64 r2], .bool r3]) ∧ Below w.heap.size w w' := by
 have hu24 := Tryd.underlying24
 have hu28 := Tryd.underlying28
 have hu26 := Tryd.underlying26
 have HR0_2 := Aside0.mk (hr0_2)
 have HC0_2 := Aside0.mk (hc0_2)
 clear hr0_2 hc0_2
 have HB := Bw.mk (Below.refl w.heap.size w)
 have H : (snowlineref01_pair.l0 k 0 a0_0 a0_1 l0_2) = some (r1, r2, r3) := h
 clear h
 have H' := Aside0.mk H
 clear H
 go_enter Tryd.func72, Tryd.ntmps72
 go_wp2_with (first | ((with_reducible refine gate_dst (N := 1) rfl ?_); refine bxE 1 24 #[.int .i64 a0_0, .int .i64 a0_1, .slice A0_2 l0_2.length c0_2] (by rfl) (by rfl) (by first | (go_simp; done) | (go_simp; rfl)) ?_; intro gb462 hg w2 hbox hb; have BK462 := Bk.mk (hbox); have GE462 := eB w hg; replace HB := bS w hb; clear hb hbox hg) | ((with_reducible refine gate_dst (N := 2) rfl ?_); refine bxE 2 28 #[.int .i64 0, .int .i64 0] (by rfl) (by rfl) (by first | (go_simp; done) | (go_simp; rfl)) ?_; intro gb463 hg w3 hbox hb; have BK463 := Bk.mk (hbox); have GE463 := eB w hg; have NB462_463 := nB gb462 hg; replace BK462 := kB gb462 hb; replace HB := bS w hb; clear hb hbox hg))
 go_loopg [4] k (fun kq v4 w' => ∃ (x4_1 : Int) (x464000_1 : Int) (x464001_1 : Int), v4 = .int .i64 x4_1 ∧ Aside0 (snowlineref01_pair.l0 kq x4_1 a0_0 a0_1 l0_2 = some (r1, r2, r3)) ∧ Aside0 (kq ≤ k) ∧ Bk w' gb462 (.cells #[.int .i64 a0_0, .int .i64 a0_1, (.slice A0_2 l0_2.length c0_2)] 24 (0, 0)) ∧ Bk w' gb463 (.cells #[.int .i64 x464000_1, .int .i64 x464001_1] 28 (0, 0)) ∧ Bw w w')
 case atStart => exact ⟨(0), (0), (0), (by first | rfl | (simp; done) | (simp [*]; done)), H', ⟨Nat.le_refl _⟩, inferInstance, inferInstance, inferInstance⟩
 case round =>
  clear H'
  try clear p2
  obtain ⟨x4_1, x464000_1, x464001_1, rfl, HA, HK1, BK462, BK463, HB⟩ := hrel
  cases gk with
  | zero => exact absurd HA.out (by simp [snowlineref01_pair.l0])
  | succ k1 =>
   have H := HA.out
   clear HA
   simp only [snowlineref01_pair.l0] at H
   by_cases c4 : x4_1 < (l0_2.length : Int)
   ·
    rw [if_pos c4] at H
    have c4b0 : decide (x4_1 < (l0_2.length : Int)) = true := decide_eq_true c4
    clear c4
    have H' := Aside0.mk H
    clear H
    obtain ⟨hnb5, hnc5⟩ := nn NB462_463
    obtain ⟨hcz6_0, hcz6_1, hcz6_2, hfz6_0, hfz6_1, hfz6_2⟩ := cz3 BK462
    go_wp2
    go_loopg [5] k1 (fun kq v5 w' => ∃ (x5_2 : Int) (x464000_2 : Int) (x464001_2 : Int), v5 = .int .i64 x5_2 ∧ Aside0 (snowlineref01_pair.l1 kq x4_1 x5_2 a0_0 a0_1 l0_2 = some (r1, r2, r3)) ∧ Aside0 (kq ≤ k1) ∧ Bk w' gb462 (.cells #[.int .i64 a0_0, .int .i64 a0_1, (.slice A0_2 l0_2.length c0_2)] 24 (0, 0)) ∧ Bk w' gb463 (.cells #[.int .i64 x464000_2, .int .i64 x464001_2] 28 (0, 0)) ∧ Bw w w')
    case atStart => exact ⟨(wrap64 (x4_1 + 1)), (x464000_1), (x464001_1), (by first | rfl | (simp; done) | (simp [*]; done)), H', ⟨Nat.le_refl _⟩, inferInstance, inferInstance, inferInstance⟩
    case round =>
     clear H'
     try clear p2
     try clear c4
     try clear c4b0
     try clear c5
     try clear p6
     try clear p2
     obtain ⟨x5_2, x464000_2, x464001_2, rfl, HA, HK2, BK462, BK463, HB⟩ := hrel
     cases gk with
     | zero => exact absurd HA.out (by simp [snowlineref01_pair.l1])
     | succ k2 =>
      have H := HA.out
      clear HA
      simp only [snowlineref01_pair.l1] at H
      by_cases c7 : x5_2 < (l0_2.length : Int)
      ·
       rw [if_pos c7] at H
       have c7b0 : decide (x5_2 < (l0_2.length : Int)) = true := decide_eq_true c7
       clear c7
       by_cases c8 : 0 ≤ x4_1
       ·
        rw [if_pos c8] at H
        have c8b0 : decide (0 ≤ x4_1) = true := decide_eq_true c8
        clear c8
        by_cases c9 : x4_1 < (l0_2.length : Int)
        ·
         rw [if_pos c9] at H
         have c9b0 : decide (x4_1 < (l0_2.length : Int)) = true := decide_eq_true c9
         clear c9
         by_cases c10 : 0 ≤ x5_2
         ·
          rw [if_pos c10] at H
          have c10b0 : decide (0 ≤ x5_2) = true := decide_eq_true c10
          clear c10
          replace H := Option.bind_eq_some_iff.mp H
          obtain ⟨t466, A110, H⟩ := H
          have A11 := Aside0.mk (A110)
          clear A110
          by_cases c12 : t466 = true
          ·
           subst c12
           rw [if_pos rfl] at H
           simp only [Option.some.injEq, Prod.mk.injEq] at H
           obtain ⟨rfl, rfl, rfl⟩ := H
           obtain ⟨hnb13, hnc13⟩ := nn NB462_463
           obtain ⟨hcz14_0, hcz14_1, hcz14_2, hfz14_0, hfz14_1, hfz14_2⟩ := cz3 BK462
           try go_wp2
           have n0_ := Bk.mk (blk_drew BK462.out)
           have n1_ := Bk.mk (blk_drew BK463.out)
           have n2_ := Bw.mk (below_drew1 HB.out)
           clear BK462 BK463 HB
           have BK462 := n0_
           have BK463 := n1_
           have HB := n2_
           clear n0_ n1_ n2_
           have p464 : 0 ≤ (x4_1 : Int) := of_decide_eq_true (by first | (with_reducible assumption) | assumption)
           have q464 : x4_1 < (l0_2.length : Int) := of_decide_eq_true (by first | (with_reducible assumption) | assumption)
           obtain ⟨ad464, e464, hx464_0, hx464_1, hx464_2, hx464_3⟩ := at_T26 HR0_2.out x4_1 p464 q464
           have hw464_3 := hx464_3
           have hw464_2 := hx464_2
           have hw464_1 := hx464_1
           have hw464_0 := hx464_0
           cases e464
           replace hx464_0 := cB HB hx464_0
           replace hx464_1 := cB HB hx464_1
           replace hx464_2 := cB HB hx464_2
           replace hx464_3 := cB HB hx464_3
           replace p464 := eq_true p464
           replace q464 := eq_true q464
           have p465 : 0 ≤ (x5_2 : Int) := of_decide_eq_true (by first | (with_reducible assumption) | assumption)
           have q465 : x5_2 < (l0_2.length : Int) := of_decide_eq_true (by first | (with_reducible assumption) | assumption)
           obtain ⟨ad465, e465, hx465_0, hx465_1, hx465_2, hx465_3⟩ := at_T26 HR0_2.out x5_2 p465 q465
           have hw465_3 := hx465_3
           have hw465_2 := hx465_2
           have hw465_1 := hx465_1
           have hw465_0 := hx465_0
           obtain rfl : ad464 = ad465 := (by injection e465)
           replace hx465_0 := cB HB hx465_0
           replace hx465_1 := cB HB hx465_1
           replace hx465_2 := cB HB hx465_2
           replace hx465_3 := cB HB hx465_3
           replace p465 := eq_true p465
           replace q465 := eq_true q465
           refine start_ (n := 14) (S := fun w' => w'.cell? ⟨gb462, 0, none⟩ = some (.int .i64 a0_0) ∧ w'.cell? ⟨gb462, 1, none⟩ = some (.int .i64 a0_1) ∧ w'.cell? ⟨gb462, 2, none⟩ = some (.slice (some ad464) l0_2.length c0_2) ∧ w'.cell? (ad464.add ((x4_1).toNat * 4)) = some (.int .i64 ((rd_T26 l0_2 x4_1).f0)) ∧ w'.cell? ⟨(ad464.add ((x4_1).toNat * 4)).block, (ad464.add ((x4_1).toNat * 4)).off + 1, none⟩ = some (.int .i64 ((rd_T26 l0_2 x4_1).f1)) ∧ w'.cell? ⟨(ad464.add ((x4_1).toNat * 4)).block, (ad464.add ((x4_1).toNat * 4)).off + 2, none⟩ = some (.int .i64 ((rd_T26 l0_2 x4_1).f2)) ∧ w'.cell? ⟨(ad464.add ((x4_1).toNat * 4)).block, (ad464.add ((x4_1).toNat * 4)).off + 3, none⟩ = some (.int .i64 ((rd_T26 l0_2 x4_1).f3)) ∧ w'.cell? (ad464.add ((x5_2).toNat * 4)) = some (.int .i64 ((rd_T26 l0_2 x5_2).f0)) ∧ w'.cell? ⟨(ad464.add ((x5_2).toNat * 4)).block, (ad464.add ((x5_2).toNat * 4)).off + 1, none⟩ = some (.int .i64 ((rd_T26 l0_2 x5_2).f1)) ∧ w'.cell? ⟨(ad464.add ((x5_2).toNat * 4)).block, (ad464.add ((x5_2).toNat * 4)).off + 2, none⟩ = some (.int .i64 ((rd_T26 l0_2 x5_2).f2)) ∧ w'.cell? ⟨(ad464.add ((x5_2).toNat * 4)).block, (ad464.add ((x5_2).toNat * 4)).off + 3, none⟩ = some (.int .i64 ((rd_T26 l0_2 x5_2).f3))) (ds := []) #[false, false, false, false, false, false, false, false, false, false, false, false, false, false] (by kernel_rfl) rfl rfl ⟨bc BK462 0, bc BK462 1, bc BK462 2, ((HB.out.cell (World.block_lt_of_cell? w _ hw464_0)).trans hw464_0), ((HB.out.cell (World.block_lt_of_cell? w _ hw464_1)).trans hw464_1), ((HB.out.cell (World.block_lt_of_cell? w _ hw464_2)).trans hw464_2), ((HB.out.cell (World.block_lt_of_cell? w _ hw464_3)).trans hw464_3), ((HB.out.cell (World.block_lt_of_cell? w _ hw465_0)).trans hw465_0), ((HB.out.cell (World.block_lt_of_cell? w _ hw465_1)).trans hw465_1), ((HB.out.cell (World.block_lt_of_cell? w _ hw465_2)).trans hw465_2), ((HB.out.cell (World.block_lt_of_cell? w _ hw465_3)).trans hw465_3)⟩ (fun hHeld => ?_); refine with_tabW snowlineref01_pair.tab7 snowlineref01_pair.bits7 (fun HT_ HW_ => ?_)
           generalize wr.drew = w15 at BK462 BK463 HB hx464_0 hx464_1 hx464_2 hx464_3 hx465_0 hx465_1 hx465_2 hx465_3 hHeld ⊢
           refine pS 0 (some 23) rfl rfl (any_of HT_.out (by kernel_rfl)) (fun _ _ _ h => h) (by rfl) (fun w' => by go_simp; with_reducible rfl) (by simp only [Act.put, List.setIfInBounds_toArray, List.set_cons_zero, List.set_cons_succ, i64_w]; rfl) ?_
           refine pS 2 (some 25) rfl rfl (any_of HT_.out (by kernel_rfl)) (fun _ _ _ h => h) (by rfl) (fun w' => by go_simp; with_reducible rfl) (by simp only [Act.put, List.setIfInBounds_toArray, List.set_cons_zero, List.set_cons_succ, i64_w]; rfl) ?_
           refine pS 4 (some 27) rfl rfl (any_of HT_.out (by kernel_rfl)) (fun _ _ _ h => h) (by rfl) (fun w' => by go_simp; with_reducible rfl) (by simp only [Act.put, List.setIfInBounds_toArray, List.set_cons_zero, List.set_cons_succ, i64_w]; rfl) ?_
           refine pS 7 (some 30) rfl rfl (any_of HT_.out (by kernel_rfl)) (fun _ _ _ h => h) (by rfl) (fun w' => by go_simp; with_reducible rfl) (by simp only [Act.put, List.setIfInBounds_toArray, List.set_cons_zero, List.set_cons_succ, i64_w]; rfl) ?_
           refine pS 9 (some 32) rfl rfl (any_of HT_.out (by kernel_rfl)) (fun _ _ _ h => h) (by rfl) (fun w' => by go_simp; with_reducible rfl) (by simp only [Act.put, List.setIfInBounds_toArray, List.set_cons_zero, List.set_cons_succ, i64_w]; rfl) ?_
           refine tS 1 (some 24) rfl rfl (take_ofW HT_.out HW_.out (by kernel_rfl)) (fun _ _ _ h => h) (by rfl) (by rintro w' ⟨s0, s1, s2, s3, s4, s5, s6, s7, s8, s9, s10⟩; go_simp; with_reducible rfl) hHeld (by simp only [Act.put, List.setIfInBounds_toArray, List.set_cons_zero, List.set_cons_succ, i64_w]; rfl) ?_
           refine tS 3 (some 26) rfl rfl (take_ofW HT_.out HW_.out (by kernel_rfl)) (fun _ _ _ h => h) (by rfl) (by rintro w' ⟨s0, s1, s2, s3, s4, s5, s6, s7, s8, s9, s10⟩; go_simp; with_reducible rfl) hHeld (by simp only [Act.put, List.setIfInBounds_toArray, List.set_cons_zero, List.set_cons_succ, i64_w]; rfl) ?_
           refine pS 5 (some 28) rfl rfl (any_of HT_.out (by kernel_rfl)) (fun _ _ _ h => h) (by rfl) (fun w' => by go_simp; with_reducible rfl) (by simp only [Act.put, List.setIfInBounds_toArray, List.set_cons_zero, List.set_cons_succ, i64_w]; rfl) ?_
           refine tS 6 (some 29) rfl rfl (take_ofW HT_.out HW_.out (by kernel_rfl)) (fun _ _ _ h => h) (by rfl) (by rintro w' ⟨s0, s1, s2, s3, s4, s5, s6, s7, s8, s9, s10⟩; go_simp; with_reducible rfl) hHeld (by simp only [Act.put, List.setIfInBounds_toArray, List.set_cons_zero, List.set_cons_succ, i64_w]; rfl) ?_
           refine tS 8 (some 31) rfl rfl (take_ofW HT_.out HW_.out (by kernel_rfl)) (fun _ _ _ h => h) (by rfl) (by rintro w' ⟨s0, s1, s2, s3, s4, s5, s6, s7, s8, s9, s10⟩; go_simp; with_reducible rfl) hHeld (by simp only [Act.put, List.setIfInBounds_toArray, List.set_cons_zero, List.set_cons_succ, i64_w]; rfl) ?_
           refine pS 10 (some 33) rfl rfl (any_of HT_.out (by kernel_rfl)) (fun _ _ _ h => h) (by rfl) (fun w' => by go_simp; with_reducible rfl) (by simp only [Act.put, List.setIfInBounds_toArray, List.set_cons_zero, List.set_cons_succ, i64_w]; rfl) ?_
           refine tS 11 (some 34) rfl rfl (take_ofW HT_.out HW_.out (by kernel_rfl)) (fun _ _ _ h => h) (by rfl) (by rintro w' ⟨s0, s1, s2, s3, s4, s5, s6, s7, s8, s9, s10⟩; go_simp; with_reducible rfl) hHeld (by simp only [Act.put, List.setIfInBounds_toArray, List.set_cons_zero, List.set_cons_succ, i64_w]; rfl) ?_
           refine one_ (i := 12) (N := some 35) #[true, true, true, true, true, true, true, true, true, true, true, true, true, false] rfl rfl (one_of HT_.out (by kernel_rfl)) (by decide) (fun K hK => ?_)
           refine goesM Tryd.func128 (by kernel_rfl) rfl #[.int .i64 a0_1, .agg #[.int .i64 ((rd_T26 l0_2 x4_1).f0), .int .i64 ((rd_T26 l0_2 x4_1).f1), .int .i64 ((rd_T26 l0_2 x4_1).f2), .int .i64 ((rd_T26 l0_2 x4_1).f3)], .agg #[.int .i64 ((rd_T26 l0_2 x5_2).f0), .int .i64 ((rd_T26 l0_2 x5_2).f1), .int .i64 ((rd_T26 l0_2 x5_2).f2), .int .i64 ((rd_T26 l0_2 x5_2).f3)]] (by rfl) rfl rfl (by rfl) ?_
           with_reducible refine (snowlineref01_apart.calls a0_1 ((rd_T26 l0_2 x4_1).f0) ((rd_T26 l0_2 x4_1).f1) ((rd_T26 l0_2 x4_1).f2) ((rd_T26 l0_2 x4_1).f3) ((rd_T26 l0_2 x5_2).f0) ((rd_T26 l0_2 x5_2).f1) ((rd_T26 l0_2 x5_2).f2) ((rd_T26 l0_2 x5_2).f3) true _ A11.out).mono ?_
           rintro e w16 ⟨rfl, hb⟩
           refine ⟨_, rfl, ?_⟩
           replace BK462 := kB gb462 hb
           replace BK463 := kB gb463 hb
           replace HB := bS w hb
           (try clear hb)
           refine hK.out _ _ ⟨bc BK462 0, bc BK462 1, bc BK462 2, ((HB.out.cell (World.block_lt_of_cell? w _ hw464_0)).trans hw464_0), ((HB.out.cell (World.block_lt_of_cell? w _ hw464_1)).trans hw464_1), ((HB.out.cell (World.block_lt_of_cell? w _ hw464_2)).trans hw464_2), ((HB.out.cell (World.block_lt_of_cell? w _ hw464_3)).trans hw464_3), ((HB.out.cell (World.block_lt_of_cell? w _ hw465_0)).trans hw465_0), ((HB.out.cell (World.block_lt_of_cell? w _ hw465_1)).trans hw465_1), ((HB.out.cell (World.block_lt_of_cell? w _ hw465_2)).trans hw465_2), ((HB.out.cell (World.block_lt_of_cell? w _ hw465_3)).trans hw465_3)⟩ (fun hHeld => ?_)
           clear hK K
           refine norm_ (a' := ?_) ?_ ?_
           rotate_left
           ·
            show Act.put _ (some 35) _ = _
            simp only [Act.put, List.setIfInBounds_toArray, List.set_cons_zero, List.set_cons_succ, i64_w]
            rfl
           refine pS 13 (some 6) rfl rfl (any_of HT_.out (by kernel_rfl)) (fun _ _ _ h => h) (by rfl) (fun w' => by go_simp; with_reducible rfl) (by simp only [Act.put, List.setIfInBounds_toArray, List.set_cons_zero, List.set_cons_succ, i64_w]; rfl) ?_
           refine done_ (done_of HT_.out (by kernel_rfl)) ?_
           obtain ⟨hcz17_0, hcz17_1, hfz17_0, hfz17_1⟩ := cz2 BK463
           try go_wp2
           all_goals (refine bodyPost_ret (results_ct rfl _ _ gb463 28 #[.int .i64 x4_1, .int .i64 x5_2] (0, 0) _ rfl (bko gb463 (by rfl)) Tryd.underlying28 rfl (by kernel_rfl)) rfl ?_; exact ⟨by first | rfl | (simp [errW_none, errW_some] <;> rfl) | (simp [*, errW_none, errW_some] <;> rfl), bw w⟩)
          ·
           replace c12 := Bool.eq_false_iff.mpr c12
           subst c12
           rw [if_neg (show ¬ (false = true) by decide)] at H
           have H' := Aside0.mk H
           clear H
           obtain ⟨hnb18, hnc18⟩ := nn NB462_463
           obtain ⟨hcz19_0, hcz19_1, hcz19_2, hfz19_0, hfz19_1, hfz19_2⟩ := cz3 BK462
           try go_wp2
           have n0_ := Bk.mk (blk_drew BK462.out)
           have n1_ := Bk.mk (blk_drew BK463.out)
           have n2_ := Bw.mk (below_drew1 HB.out)
           clear BK462 BK463 HB
           have BK462 := n0_
           have BK463 := n1_
           have HB := n2_
           clear n0_ n1_ n2_
           have p464 : 0 ≤ (x4_1 : Int) := of_decide_eq_true (by first | (with_reducible assumption) | assumption)
           have q464 : x4_1 < (l0_2.length : Int) := of_decide_eq_true (by first | (with_reducible assumption) | assumption)
           obtain ⟨ad464, e464, hx464_0, hx464_1, hx464_2, hx464_3⟩ := at_T26 HR0_2.out x4_1 p464 q464
           have hw464_3 := hx464_3
           have hw464_2 := hx464_2
           have hw464_1 := hx464_1
           have hw464_0 := hx464_0
           cases e464
           replace hx464_0 := cB HB hx464_0
           replace hx464_1 := cB HB hx464_1
           replace hx464_2 := cB HB hx464_2
           replace hx464_3 := cB HB hx464_3
           replace p464 := eq_true p464
           replace q464 := eq_true q464
           have p465 : 0 ≤ (x5_2 : Int) := of_decide_eq_true (by first | (with_reducible assumption) | assumption)
           have q465 : x5_2 < (l0_2.length : Int) := of_decide_eq_true (by first | (with_reducible assumption) | assumption)
           obtain ⟨ad465, e465, hx465_0, hx465_1, hx465_2, hx465_3⟩ := at_T26 HR0_2.out x5_2 p465 q465
           have hw465_3 := hx465_3
           have hw465_2 := hx465_2
           have hw465_1 := hx465_1
           have hw465_0 := hx465_0
           obtain rfl : ad464 = ad465 := (by injection e465)
           replace hx465_0 := cB HB hx465_0
           replace hx465_1 := cB HB hx465_1
           replace hx465_2 := cB HB hx465_2
           replace hx465_3 := cB HB hx465_3
           replace p465 := eq_true p465
           replace q465 := eq_true q465
           refine start_ (n := 14) (S := fun w' => w'.cell? ⟨gb462, 0, none⟩ = some (.int .i64 a0_0) ∧ w'.cell? ⟨gb462, 1, none⟩ = some (.int .i64 a0_1) ∧ w'.cell? ⟨gb462, 2, none⟩ = some (.slice (some ad464) l0_2.length c0_2) ∧ w'.cell? (ad464.add ((x4_1).toNat * 4)) = some (.int .i64 ((rd_T26 l0_2 x4_1).f0)) ∧ w'.cell? ⟨(ad464.add ((x4_1).toNat * 4)).block, (ad464.add ((x4_1).toNat * 4)).off + 1, none⟩ = some (.int .i64 ((rd_T26 l0_2 x4_1).f1)) ∧ w'.cell? ⟨(ad464.add ((x4_1).toNat * 4)).block, (ad464.add ((x4_1).toNat * 4)).off + 2, none⟩ = some (.int .i64 ((rd_T26 l0_2 x4_1).f2)) ∧ w'.cell? ⟨(ad464.add ((x4_1).toNat * 4)).block, (ad464.add ((x4_1).toNat * 4)).off + 3, none⟩ = some (.int .i64 ((rd_T26 l0_2 x4_1).f3)) ∧ w'.cell? (ad464.add ((x5_2).toNat * 4)) = some (.int .i64 ((rd_T26 l0_2 x5_2).f0)) ∧ w'.cell? ⟨(ad464.add ((x5_2).toNat * 4)).block, (ad464.add ((x5_2).toNat * 4)).off + 1, none⟩ = some (.int .i64 ((rd_T26 l0_2 x5_2).f1)) ∧ w'.cell? ⟨(ad464.add ((x5_2).toNat * 4)).block, (ad464.add ((x5_2).toNat * 4)).off + 2, none⟩ = some (.int .i64 ((rd_T26 l0_2 x5_2).f2)) ∧ w'.cell? ⟨(ad464.add ((x5_2).toNat * 4)).block, (ad464.add ((x5_2).toNat * 4)).off + 3, none⟩ = some (.int .i64 ((rd_T26 l0_2 x5_2).f3))) (ds := []) #[false, false, false, false, false, false, false, false, false, false, false, false, false, false] (by kernel_rfl) rfl rfl ⟨bc BK462 0, bc BK462 1, bc BK462 2, ((HB.out.cell (World.block_lt_of_cell? w _ hw464_0)).trans hw464_0), ((HB.out.cell (World.block_lt_of_cell? w _ hw464_1)).trans hw464_1), ((HB.out.cell (World.block_lt_of_cell? w _ hw464_2)).trans hw464_2), ((HB.out.cell (World.block_lt_of_cell? w _ hw464_3)).trans hw464_3), ((HB.out.cell (World.block_lt_of_cell? w _ hw465_0)).trans hw465_0), ((HB.out.cell (World.block_lt_of_cell? w _ hw465_1)).trans hw465_1), ((HB.out.cell (World.block_lt_of_cell? w _ hw465_2)).trans hw465_2), ((HB.out.cell (World.block_lt_of_cell? w _ hw465_3)).trans hw465_3)⟩ (fun hHeld => ?_); refine with_tabW snowlineref01_pair.tab7 snowlineref01_pair.bits7 (fun HT_ HW_ => ?_)
           generalize wr.drew = w20 at BK462 BK463 HB hx464_0 hx464_1 hx464_2 hx464_3 hx465_0 hx465_1 hx465_2 hx465_3 hHeld ⊢
           refine pS 0 (some 23) rfl rfl (any_of HT_.out (by kernel_rfl)) (fun _ _ _ h => h) (by rfl) (fun w' => by go_simp; with_reducible rfl) (by simp only [Act.put, List.setIfInBounds_toArray, List.set_cons_zero, List.set_cons_succ, i64_w]; rfl) ?_
           refine pS 2 (some 25) rfl rfl (any_of HT_.out (by kernel_rfl)) (fun _ _ _ h => h) (by rfl) (fun w' => by go_simp; with_reducible rfl) (by simp only [Act.put, List.setIfInBounds_toArray, List.set_cons_zero, List.set_cons_succ, i64_w]; rfl) ?_
           refine pS 4 (some 27) rfl rfl (any_of HT_.out (by kernel_rfl)) (fun _ _ _ h => h) (by rfl) (fun w' => by go_simp; with_reducible rfl) (by simp only [Act.put, List.setIfInBounds_toArray, List.set_cons_zero, List.set_cons_succ, i64_w]; rfl) ?_
           refine pS 7 (some 30) rfl rfl (any_of HT_.out (by kernel_rfl)) (fun _ _ _ h => h) (by rfl) (fun w' => by go_simp; with_reducible rfl) (by simp only [Act.put, List.setIfInBounds_toArray, List.set_cons_zero, List.set_cons_succ, i64_w]; rfl) ?_
           refine pS 9 (some 32) rfl rfl (any_of HT_.out (by kernel_rfl)) (fun _ _ _ h => h) (by rfl) (fun w' => by go_simp; with_reducible rfl) (by simp only [Act.put, List.setIfInBounds_toArray, List.set_cons_zero, List.set_cons_succ, i64_w]; rfl) ?_
           refine tS 1 (some 24) rfl rfl (take_ofW HT_.out HW_.out (by kernel_rfl)) (fun _ _ _ h => h) (by rfl) (by rintro w' ⟨s0, s1, s2, s3, s4, s5, s6, s7, s8, s9, s10⟩; go_simp; with_reducible rfl) hHeld (by simp only [Act.put, List.setIfInBounds_toArray, List.set_cons_zero, List.set_cons_succ, i64_w]; rfl) ?_
           refine tS 3 (some 26) rfl rfl (take_ofW HT_.out HW_.out (by kernel_rfl)) (fun _ _ _ h => h) (by rfl) (by rintro w' ⟨s0, s1, s2, s3, s4, s5, s6, s7, s8, s9, s10⟩; go_simp; with_reducible rfl) hHeld (by simp only [Act.put, List.setIfInBounds_toArray, List.set_cons_zero, List.set_cons_succ, i64_w]; rfl) ?_
           refine pS 5 (some 28) rfl rfl (any_of HT_.out (by kernel_rfl)) (fun _ _ _ h => h) (by rfl) (fun w' => by go_simp; with_reducible rfl) (by simp only [Act.put, List.setIfInBounds_toArray, List.set_cons_zero, List.set_cons_succ, i64_w]; rfl) ?_
           refine tS 6 (some 29) rfl rfl (take_ofW HT_.out HW_.out (by kernel_rfl)) (fun _ _ _ h => h) (by rfl) (by rintro w' ⟨s0, s1, s2, s3, s4, s5, s6, s7, s8, s9, s10⟩; go_simp; with_reducible rfl) hHeld (by simp only [Act.put, List.setIfInBounds_toArray, List.set_cons_zero, List.set_cons_succ, i64_w]; rfl) ?_
           refine tS 8 (some 31) rfl rfl (take_ofW HT_.out HW_.out (by kernel_rfl)) (fun _ _ _ h => h) (by rfl) (by rintro w' ⟨s0, s1, s2, s3, s4, s5, s6, s7, s8, s9, s10⟩; go_simp; with_reducible rfl) hHeld (by simp only [Act.put, List.setIfInBounds_toArray, List.set_cons_zero, List.set_cons_succ, i64_w]; rfl) ?_
           refine pS 10 (some 33) rfl rfl (any_of HT_.out (by kernel_rfl)) (fun _ _ _ h => h) (by rfl) (fun w' => by go_simp; with_reducible rfl) (by simp only [Act.put, List.setIfInBounds_toArray, List.set_cons_zero, List.set_cons_succ, i64_w]; rfl) ?_
           refine tS 11 (some 34) rfl rfl (take_ofW HT_.out HW_.out (by kernel_rfl)) (fun _ _ _ h => h) (by rfl) (by rintro w' ⟨s0, s1, s2, s3, s4, s5, s6, s7, s8, s9, s10⟩; go_simp; with_reducible rfl) hHeld (by simp only [Act.put, List.setIfInBounds_toArray, List.set_cons_zero, List.set_cons_succ, i64_w]; rfl) ?_
           refine one_ (i := 12) (N := some 35) #[true, true, true, true, true, true, true, true, true, true, true, true, true, false] rfl rfl (one_of HT_.out (by kernel_rfl)) (by decide) (fun K hK => ?_)
           refine goesM Tryd.func128 (by kernel_rfl) rfl #[.int .i64 a0_1, .agg #[.int .i64 ((rd_T26 l0_2 x4_1).f0), .int .i64 ((rd_T26 l0_2 x4_1).f1), .int .i64 ((rd_T26 l0_2 x4_1).f2), .int .i64 ((rd_T26 l0_2 x4_1).f3)], .agg #[.int .i64 ((rd_T26 l0_2 x5_2).f0), .int .i64 ((rd_T26 l0_2 x5_2).f1), .int .i64 ((rd_T26 l0_2 x5_2).f2), .int .i64 ((rd_T26 l0_2 x5_2).f3)]] (by rfl) rfl rfl (by rfl) ?_
           with_reducible refine (snowlineref01_apart.calls a0_1 ((rd_T26 l0_2 x4_1).f0) ((rd_T26 l0_2 x4_1).f1) ((rd_T26 l0_2 x4_1).f2) ((rd_T26 l0_2 x4_1).f3) ((rd_T26 l0_2 x5_2).f0) ((rd_T26 l0_2 x5_2).f1) ((rd_T26 l0_2 x5_2).f2) ((rd_T26 l0_2 x5_2).f3) false _ A11.out).mono ?_
           rintro e w21 ⟨rfl, hb⟩
           refine ⟨_, rfl, ?_⟩
           replace BK462 := kB gb462 hb
           replace BK463 := kB gb463 hb
           replace HB := bS w hb
           (try clear hb)
           refine hK.out _ _ ⟨bc BK462 0, bc BK462 1, bc BK462 2, ((HB.out.cell (World.block_lt_of_cell? w _ hw464_0)).trans hw464_0), ((HB.out.cell (World.block_lt_of_cell? w _ hw464_1)).trans hw464_1), ((HB.out.cell (World.block_lt_of_cell? w _ hw464_2)).trans hw464_2), ((HB.out.cell (World.block_lt_of_cell? w _ hw464_3)).trans hw464_3), ((HB.out.cell (World.block_lt_of_cell? w _ hw465_0)).trans hw465_0), ((HB.out.cell (World.block_lt_of_cell? w _ hw465_1)).trans hw465_1), ((HB.out.cell (World.block_lt_of_cell? w _ hw465_2)).trans hw465_2), ((HB.out.cell (World.block_lt_of_cell? w _ hw465_3)).trans hw465_3)⟩ (fun hHeld => ?_)
           clear hK K
           refine norm_ (a' := ?_) ?_ ?_
           rotate_left
           ·
            show Act.put _ (some 35) _ = _
            simp only [Act.put, List.setIfInBounds_toArray, List.set_cons_zero, List.set_cons_succ, i64_w]
            rfl
           refine pS 13 (some 6) rfl rfl (any_of HT_.out (by kernel_rfl)) (fun _ _ _ h => h) (by rfl) (fun w' => by go_simp; with_reducible rfl) (by simp only [Act.put, List.setIfInBounds_toArray, List.set_cons_zero, List.set_cons_succ, i64_w]; rfl) ?_
           refine done_ (done_of HT_.out (by kernel_rfl)) ?_
           try go_wp2
           go_roundg k2
           case measure => have := HK1.out; have := HK2.out; omega
           case rel => exact ⟨(wrap64 (x5_2 + 1)), (x464000_2), (x464001_2), (by first | rfl | (simp; done) | (simp [*]; done)), H', ⟨by have := HK1.out; have := HK2.out; omega⟩, inferInstance, inferInstance, inferInstance⟩
         ·
          rw [if_neg c10] at H
          exact absurd H (by simp)
        ·
         rw [if_neg c9] at H
         exact absurd H (by simp)
       ·
        rw [if_neg c8] at H
        exact absurd H (by simp)
      ·
       rw [if_neg c7] at H
       have c7b0 : decide (x5_2 < (l0_2.length : Int)) = false := decide_eq_false c7
       clear c7
       have H' := Aside0.mk H
       clear H
       obtain ⟨hnb22, hnc22⟩ := nn NB462_463
       obtain ⟨hcz23_0, hcz23_1, hcz23_2, hfz23_0, hfz23_1, hfz23_2⟩ := cz3 BK462
       go_wp2
       go_roundg k2
       case measure => have := HK1.out; have := HK2.out; omega
       case rel => exact ⟨(wrap64 (x4_1 + 1)), (x464000_2), (x464001_2), (by first | rfl | (simp; done) | (simp [*]; done)), H', ⟨by have := HK1.out; have := HK2.out; omega⟩, inferInstance, inferInstance, inferInstance⟩
   ·
    rw [if_neg c4] at H
    have c4b0 : decide (x4_1 < (l0_2.length : Int)) = false := decide_eq_false c4
    clear c4
    simp only [Option.some.injEq, Prod.mk.injEq] at H
    obtain ⟨rfl, rfl, rfl⟩ := H
    obtain ⟨hnb24, hnc24⟩ := nn NB462_463
    obtain ⟨hcz25_0, hcz25_1, hcz25_2, hfz25_0, hfz25_1, hfz25_2⟩ := cz3 BK462
    obtain ⟨hcz26_0, hcz26_1, hfz26_0, hfz26_1⟩ := cz2 BK463
    go_wp2
    all_goals (refine bodyPost_ret (results_ct rfl _ _ gb463 28 #[.int .i64 0, .int .i64 0] (0, 0) _ rfl (bko gb463 (by rfl)) Tryd.underlying28 rfl (by kernel_rfl)) rfl ?_; exact ⟨by first | rfl | (simp [errW_none, errW_some] <;> rfl) | (simp [*, errW_none, errW_some] <;> rfl), bw w⟩)
def snowlineref01_CheckScale.f (k : Nat) (a0_0 : Int) (a0_1 : Int) (l0_2 : List (S26)) : Option (Int) := (snowlineref01_valid.f k a0_0 a0_1 l0_2).bind fun t475 => (if t475 = true then ((snowlineref01_pair.f k a0_0 a0_1 l0_2).bind fun bt476 => (if bt476.2.2 = true then (some 13) else (some 0))) else (some 11))
set_option maxHeartbeats 8000000 in
set_option maxRecDepth 100000 in
theorem snowlineref01_CheckScale.calls (k : Nat) (a0_0 : Int) (a0_1 : Int) (A0_2 : Option Addr) (c0_2 : Nat) (l0_2 : List (S26)) (r : Int) (w : World) (hr0_2 : Kd.C k26 w A0_2 l0_2.length l0_2) (hc0_2 : l0_2.length ≤ c0_2) (h : snowlineref01_CheckScale.f k a0_0 a0_1 l0_2 = some r) :
  Calls Tryd.prog 21 #[.agg #[.int .i64 a0_0, .int .i64 a0_1, .slice A0_2 l0_2.length c0_2]] w fun e w' => e = .returned (.int .i64 r) ∧ Below w.heap.size w w' := by
 have hu24 := Tryd.underlying24
 have hu28 := Tryd.underlying28
 have HR0_2 := Aside0.mk (hr0_2)
 have HC0_2 := Aside0.mk (hc0_2)
 clear hr0_2 hc0_2
 have HB := Bw.mk (Below.refl w.heap.size w)
 have H : ((snowlineref01_valid.f k a0_0 a0_1 l0_2).bind fun t475 => (if t475 = true then ((snowlineref01_pair.f k a0_0 a0_1 l0_2).bind fun bt476 => (if bt476.2.2 = true then (some 13) else (some 0))) else (some 11))) = some r := h
 clear h
 replace H := Option.bind_eq_some_iff.mp H
 obtain ⟨t475, A20, H⟩ := H
 have A2 := Aside0.mk (A20)
 clear A20
 by_cases c3 : t475 = true
 ·
  subst c3
  rw [if_pos rfl] at H
  replace H := Option.bind_eq_some_iff.mp H
  obtain ⟨⟨t476, t477, t478⟩, A40, H⟩ := H
  have A4 := Aside0.mk (A40)
  clear A40
  by_cases c5 : t478 = true
  ·
   subst c5
   rw [if_pos rfl] at H
   obtain rfl := Option.some.inj H
   go_enter Tryd.func21, Tryd.ntmps21
   go_wp2_with (first | ((with_reducible refine gate_dst (N := 1) rfl ?_); refine bxE 1 24 #[.int .i64 a0_0, .int .i64 a0_1, .slice A0_2 l0_2.length c0_2] (by rfl) (by rfl) (by first | (go_simp; done) | (go_simp; rfl)) ?_; intro gb474 hg w6 hbox hb; have BK474 := Bk.mk (hbox); have GE474 := eB w hg; replace HB := bS w hb; clear hb hbox hg; obtain ⟨hcz7_0, hcz7_1, hcz7_2, hfz7_0, hfz7_1, hfz7_2⟩ := cz3 BK474) | ((with_reducible refine gate_callee (f := 71) rfl ?_); refine goesLM (some 7) rfl rfl Tryd.func71 (by kernel_rfl) rfl #[.agg #[.int .i64 a0_0, .int .i64 a0_1, .slice A0_2 l0_2.length c0_2]] rfl (by rfl) ?_; (with_reducible refine (snowlineref01_valid.calls k a0_0 a0_1 _ _ l0_2 true _ ?side1 ?side2 A2.out).mono ?_); (case side1 => exact cP (Kd.C_below HR0_2.out HB.out)); (case side2 => exact HC0_2.out); rintro e w8 ⟨rfl, hb⟩; refine ⟨_, rfl, ?_⟩; replace BK474 := kB gb474 hb; replace HB := bS w hb; (try clear hb); obtain ⟨hcz9_0, hcz9_1, hcz9_2, hfz9_0, hfz9_1, hfz9_2⟩ := cz3 BK474) | ((with_reducible refine gate_callee (f := 72) rfl ?_); refine goesLM (some 12) rfl rfl Tryd.func72 (by kernel_rfl) rfl #[.agg #[.int .i64 a0_0, .int .i64 a0_1, .slice A0_2 l0_2.length c0_2]] rfl (by rfl) ?_; (with_reducible refine (snowlineref01_pair.calls k a0_0 a0_1 _ _ l0_2 t476 t477 true _ ?side1 ?side2 A4.out).mono ?_); (case side1 => exact cP (Kd.C_below HR0_2.out HB.out)); (case side2 => exact HC0_2.out); rintro e w10 ⟨rfl, hb⟩; refine ⟨_, rfl, ?_⟩; replace BK474 := kB gb474 hb; replace HB := bS w hb; (try clear hb)) | ((with_reducible refine gate_dst (N := 4) rfl ?_); refine bxE 4 28 #[.int .i64 0, .int .i64 0] (by rfl) (by rfl) (by first | (go_simp; done) | (go_simp; rfl)) ?_; intro gb479 hg w11 hbox hb; have BK479 := Bk.mk (hbox); have GE479 := eB w hg; replace BK474 := kB gb474 hb; replace HB := bS w hb; clear hb hbox hg; obtain ⟨hcz13_0, hcz13_1, hfz13_0, hfz13_1⟩ := cz2 BK479))
   go_ret
   exact ⟨by first | rfl | (simp [errW_none, errW_some] <;> rfl) | (simp [*, errW_none, errW_some] <;> rfl), bw w⟩
  ·
   replace c5 := Bool.eq_false_iff.mpr c5
   subst c5
   rw [if_neg (show ¬ (false = true) by decide)] at H
   obtain rfl := Option.some.inj H
   go_enter Tryd.func21, Tryd.ntmps21
   go_wp2_with (first | ((with_reducible refine gate_dst (N := 1) rfl ?_); refine bxE 1 24 #[.int .i64 a0_0, .int .i64 a0_1, .slice A0_2 l0_2.length c0_2] (by rfl) (by rfl) (by first | (go_simp; done) | (go_simp; rfl)) ?_; intro gb474 hg w14 hbox hb; have BK474 := Bk.mk (hbox); have GE474 := eB w hg; replace HB := bS w hb; clear hb hbox hg; obtain ⟨hcz15_0, hcz15_1, hcz15_2, hfz15_0, hfz15_1, hfz15_2⟩ := cz3 BK474) | ((with_reducible refine gate_callee (f := 71) rfl ?_); refine goesLM (some 7) rfl rfl Tryd.func71 (by kernel_rfl) rfl #[.agg #[.int .i64 a0_0, .int .i64 a0_1, .slice A0_2 l0_2.length c0_2]] rfl (by rfl) ?_; (with_reducible refine (snowlineref01_valid.calls k a0_0 a0_1 _ _ l0_2 true _ ?side1 ?side2 A2.out).mono ?_); (case side1 => exact cP (Kd.C_below HR0_2.out HB.out)); (case side2 => exact HC0_2.out); rintro e w16 ⟨rfl, hb⟩; refine ⟨_, rfl, ?_⟩; replace BK474 := kB gb474 hb; replace HB := bS w hb; (try clear hb); obtain ⟨hcz17_0, hcz17_1, hcz17_2, hfz17_0, hfz17_1, hfz17_2⟩ := cz3 BK474) | ((with_reducible refine gate_callee (f := 72) rfl ?_); refine goesLM (some 12) rfl rfl Tryd.func72 (by kernel_rfl) rfl #[.agg #[.int .i64 a0_0, .int .i64 a0_1, .slice A0_2 l0_2.length c0_2]] rfl (by rfl) ?_; (with_reducible refine (snowlineref01_pair.calls k a0_0 a0_1 _ _ l0_2 t476 t477 false _ ?side1 ?side2 A4.out).mono ?_); (case side1 => exact cP (Kd.C_below HR0_2.out HB.out)); (case side2 => exact HC0_2.out); rintro e w18 ⟨rfl, hb⟩; refine ⟨_, rfl, ?_⟩; replace BK474 := kB gb474 hb; replace HB := bS w hb; (try clear hb)) | ((with_reducible refine gate_dst (N := 4) rfl ?_); refine bxE 4 28 #[.int .i64 0, .int .i64 0] (by rfl) (by rfl) (by first | (go_simp; done) | (go_simp; rfl)) ?_; intro gb479 hg w19 hbox hb; have BK479 := Bk.mk (hbox); have GE479 := eB w hg; replace BK474 := kB gb474 hb; replace HB := bS w hb; clear hb hbox hg; obtain ⟨hcz21_0, hcz21_1, hfz21_0, hfz21_1⟩ := cz2 BK479))
   go_ret
   exact ⟨by first | rfl | (simp [errW_none, errW_some] <;> rfl) | (simp [*, errW_none, errW_some] <;> rfl), bw w⟩
 ·
  replace c3 := Bool.eq_false_iff.mpr c3
  subst c3
  rw [if_neg (show ¬ (false = true) by decide)] at H
  obtain rfl := Option.some.inj H
  go_enter Tryd.func21, Tryd.ntmps21
  go_wp2_with (first | ((with_reducible refine gate_dst (N := 1) rfl ?_); refine bxE 1 24 #[.int .i64 a0_0, .int .i64 a0_1, .slice A0_2 l0_2.length c0_2] (by rfl) (by rfl) (by first | (go_simp; done) | (go_simp; rfl)) ?_; intro gb474 hg w22 hbox hb; have BK474 := Bk.mk (hbox); have GE474 := eB w hg; replace HB := bS w hb; clear hb hbox hg; obtain ⟨hcz23_0, hcz23_1, hcz23_2, hfz23_0, hfz23_1, hfz23_2⟩ := cz3 BK474) | ((with_reducible refine gate_callee (f := 71) rfl ?_); refine goesLM (some 7) rfl rfl Tryd.func71 (by kernel_rfl) rfl #[.agg #[.int .i64 a0_0, .int .i64 a0_1, .slice A0_2 l0_2.length c0_2]] rfl (by rfl) ?_; (with_reducible refine (snowlineref01_valid.calls k a0_0 a0_1 _ _ l0_2 false _ ?side1 ?side2 A2.out).mono ?_); (case side1 => exact cP (Kd.C_below HR0_2.out HB.out)); (case side2 => exact HC0_2.out); rintro e w24 ⟨rfl, hb⟩; refine ⟨_, rfl, ?_⟩; replace BK474 := kB gb474 hb; replace HB := bS w hb; (try clear hb)))
  go_ret
  exact ⟨by first | rfl | (simp [errW_none, errW_some] <;> rfl) | (simp [*, errW_none, errW_some] <;> rfl), bw w⟩
end Go.Proofs.YtapijkdgkajoeaaDoor.PF
end
section
namespace Go.Proofs.YtapijkdgkajoeaaDoor.PF
open Go.RowKit Go.Proofs.YtapijkdgkajoeaaDoorW.PrintWords Go.Proofs.YtapijkdgkajoeaaDoorW.PrintMore
def DayOk (n : Int) : Prop := 0 ≤ n ∧ n ≤ 1048576
instance (n : Int) : Decidable (DayOk n) := by unfold DayOk; infer_instance
def NoOk (n : Int) : Prop := 0 ≤ n ∧ n ≤ 4095
instance (n : Int) : Decidable (NoOk n) := by unfold NoOk; infer_instance
def OkT (t : S26) : Prop := DayOk t.f0 ∧ DayOk t.f1 ∧ t.f2 ≤ t.f3 ∧ -1048576 ≤ t.f2 ∧ t.f3 ≤ 1048576
instance (t : S26) : Decidable (OkT t) := by unfold OkT; infer_instance
abbrev at26 (l : List S26) (i : Nat) : S26 := l.getD i z26
theorem rd_at26 (l : List S26) (i : Nat) : rd_T26 l (i : Int) = at26 l i := by simp [rd_T26]
theorem course_day_eq (n : Int) : course_day.f n = some (decide (DayOk n)) := by
  unfold course_day.f DayOk
  by_cases h : 0 ≤ n <;> simp [h]
theorem ref_Day_eq (n : Int) : snowlineref01_Day.f n = some (decide (DayOk n)) := by
  unfold snowlineref01_Day.f DayOk
  by_cases h : 0 ≤ n <;> simp [h]
theorem course_number_eq (n : Int) : course_number.f n = some (decide (NoOk n)) := by
  unfold course_number.f NoOk
  by_cases h : 0 ≤ n <;> simp [h]
theorem ref_Number_eq (n : Int) : snowlineref01_Number.f n = some (decide (NoOk n)) := by
  unfold snowlineref01_Number.f NoOk
  by_cases h : 0 ≤ n <;> simp [h]
theorem course_CheckTest_eq (t : S26) : course_CheckTest.f t.f0 t.f1 t.f2 t.f3 = some (if OkT t then 0 else 10) := by
  simp only [course_CheckTest.f, course_day_eq, Option.bind_some, decide_eq_true_eq]
  by_cases a : DayOk t.f0
  · by_cases b : DayOk t.f1
    · by_cases c : t.f2 > t.f3
      · rw [if_pos a, if_pos b, if_pos c, if_neg (fun h => by have := h.2.2.1; omega)]
      · by_cases d : t.f2 < -1048576
        · rw [if_pos a, if_pos b, if_neg c, if_pos d, if_neg (fun h => by have := h.2.2.2.1; omega)]
        · by_cases e : t.f3 > 1048576
          · rw [if_pos a, if_pos b, if_neg c, if_neg d, if_pos e, if_neg (fun h => by have := h.2.2.2.2; omega)]
          · rw [if_pos a, if_pos b, if_neg c, if_neg d, if_neg e, if_pos ⟨a, b, by omega, by omega, by omega⟩]
    · rw [if_pos a, if_neg b, if_neg (fun h => b h.2.1)]
  · rw [if_neg a, if_neg (fun h => a h.1)]
theorem ref_CheckTest_eq (t : S26) : snowlineref01_CheckTest.f t.f0 t.f1 t.f2 t.f3 = some (if OkT t then 0 else 10) := by
  simp only [snowlineref01_CheckTest.f, ref_Day_eq, Option.bind_some, decide_eq_true_eq]
  by_cases a : DayOk t.f0
  · by_cases b : DayOk t.f1
    · by_cases d : t.f2 ≥ -1048576
      · by_cases c : t.f2 ≤ t.f3
        · by_cases e : t.f3 ≤ 1048576
          · rw [if_pos a, if_pos b, if_pos d, if_pos c, if_pos e, if_pos ⟨a, b, by omega, by omega, by omega⟩]
          · rw [if_pos a, if_pos b, if_pos d, if_pos c, if_neg e, if_neg (fun h => by have := h.2.2.2.2; omega)]
        · rw [if_pos a, if_pos b, if_pos d, if_neg c, if_neg (fun h => by have := h.2.2.1; omega)]
      · rw [if_pos a, if_pos b, if_neg d, if_neg (fun h => by have := h.2.2.2.1; omega)]
    · rw [if_pos a, if_neg b, if_neg (fun h => b h.2.1)]
  · rw [if_neg a, if_neg (fun h => a h.1)]
def OkL (l : List S26) (n : Nat) : Prop := ∀ i, i < n → OkT (at26 l i) ∧ (0 < i → (at26 l (i - 1)).f1 ≤ (at26 l i).f1)
def OkS (no rate : Int) (l : List S26) : Prop := NoOk no ∧ 0 ≤ rate ∧ rate ≤ 1000 ∧ l.length ≤ 64 ∧ OkL l l.length
def BadAt (l : List S26) (i : Nat) : Prop := ¬ (OkT (at26 l i) ∧ (0 < i → (at26 l (i - 1)).f1 ≤ (at26 l i).f1))
theorem well_loop (l : List S26) (a b : Int) (hn : l.length ≤ 100) : (¬ OkL l l.length ∧ Ev (fun k => course_well.l0 k l (l.length : Int) 0 a b l) 11) ∨ (OkL l l.length ∧ Ev (fun k => course_well.l0 k l (l.length : Int) 0 a b l) 0) := by
  have step : ∀ k (i : Nat), i < l.length → course_well.l0 (k + 1) l (l.length : Int) (i : Int) a b l = if OkT (at26 l i) ∧ (0 < i → (at26 l (i - 1)).f1 ≤ (at26 l i).f1) then course_well.l0 k l (l.length : Int) ((i : Int) + 1) a b l else some 11 := by
    intro k i hi
    have hw : wrap64 ((i : Int) + 1) = (i : Int) + 1 := w64 (by omega) (by omega)
    simp only [course_well.l0]
    rw [if_pos (by omega), if_pos (by omega), if_pos (by omega), rd_at26, course_CheckTest_eq, hw]
    simp only [Option.bind_some]
    by_cases h : OkT (at26 l i)
    · rw [if_pos h, if_pos rfl]
      by_cases h0 : (i : Int) > 0
      · have hw1 : wrap64 ((i : Int) - 1) = ((i - 1 : Nat) : Int) := by rw [w64 (by omega) (by omega)]; omega
        rw [if_pos h0, hw1, if_pos (by omega), if_pos (by omega), rd_at26]
        by_cases hk : (at26 l (i - 1)).f1 > (at26 l i).f1
        · rw [if_pos hk, if_neg (fun hh => by have := hh.2 (by omega); omega)]
        · rw [if_neg hk, if_pos ⟨h, fun _ => by omega⟩]
      · rw [if_neg h0, if_pos ⟨h, fun h1 => by omega⟩]
    · rw [if_neg h, if_neg (by decide), if_neg (fun hh => h hh.1)]
  rcases search1 l.length (fun k i => course_well.l0 k l (l.length : Int) i a b l) (BadAt l) (fun _ => 11) 0
    (fun k i hi hb _ => by rw [step k i hi, if_neg hb]) (fun k i hi hb _ => by rw [step k i hi, if_pos (Classical.not_not.1 hb)]) (fun k _ => by simp only [course_well.l0]; rw [if_neg (by omega)]) with ⟨i, hi, hb, _, hev⟩ | ⟨hall, hev⟩
  · exact .inl ⟨fun h => hb (h i hi), hev⟩
  · exact .inr ⟨fun i hi => Classical.not_not.1 (hall i hi), hev⟩
theorem well_eq (no rate : Int) (l : List S26) (hn : l.length ≤ 100) : (¬ OkS no rate l ∧ Ev (fun k => course_well.f k no rate l) 11) ∨ (OkS no rate l ∧ Ev (fun k => course_well.f k no rate l) 0) := by
  have bad : Ev (fun k => course_well.j0 k true no rate l) 11 := Ev.step (fun k => by simp only [course_well.j0]; rfl) (Ev.now 11)
  simp only [course_well.f, course_number_eq, Option.bind_some, decide_eq_true_eq]
  by_cases a : NoOk no
  · by_cases b : rate < 0
    · exact .inl ⟨fun h => by have := h.2.1; omega, by simp only [if_pos a, if_pos b]; exact bad⟩
    · by_cases c : rate > 1000
      · exact .inl ⟨fun h => by have := h.2.2.1; omega, by simp only [if_pos a, if_neg b, if_pos c]; exact bad⟩
      · simp only [if_pos a, if_neg b, if_neg c]
        by_cases d : (l.length : Int) > 64
        · exact .inl ⟨fun h => by have := h.2.2.2.1; omega, by simp only [decide_eq_true d]; exact bad⟩
        · simp only [decide_eq_false d]
          rcases well_loop l no rate hn with ⟨h, hev⟩ | ⟨h, hev⟩
          · exact .inl ⟨fun hh => h hh.2.2.2.2, Ev.step (fun k => by simp only [course_well.j0]; rw [if_neg (by decide)]) hev⟩
          · exact .inr ⟨⟨a, by omega, by omega, by omega, h⟩, Ev.step (fun k => by simp only [course_well.j0]; rw [if_neg (by decide)]) hev⟩
  · exact .inl ⟨fun h => a h.1, by simp only [if_neg a]; exact bad⟩
theorem valid_loop (l : List S26) (a b : Int) (hn : l.length ≤ 100) : (¬ OkL l l.length ∧ Ev (fun k => snowlineref01_valid.l0 k 0 a b l) false) ∨ (OkL l l.length ∧ Ev (fun k => snowlineref01_valid.l0 k 0 a b l) true) := by
  have step : ∀ k (i : Nat), i < l.length → snowlineref01_valid.l0 (k + 1) (i : Int) a b l = if OkT (at26 l i) ∧ (0 < i → (at26 l (i - 1)).f1 ≤ (at26 l i).f1) then snowlineref01_valid.l0 k ((i : Int) + 1) a b l else some false := by
    intro k i hi
    have hw : wrap64 ((i : Int) + 1) = (i : Int) + 1 := w64 (by omega) (by omega)
    simp only [snowlineref01_valid.l0]
    rw [if_pos (by omega), if_pos (by omega), rd_at26, ref_CheckTest_eq, hw]
    simp only [Option.bind_some]
    by_cases h : OkT (at26 l i)
    · rw [if_pos h, if_pos rfl]
      by_cases h0 : (i : Int) > 0
      · have hw1 : wrap64 ((i : Int) - 1) = ((i - 1 : Nat) : Int) := by rw [w64 (by omega) (by omega)]; omega
        rw [if_pos h0, hw1, if_pos (by omega), if_pos (by omega), rd_at26]
        by_cases hk : (at26 l (i - 1)).f1 > (at26 l i).f1
        · rw [if_pos hk, if_neg (fun hh => by have := hh.2 (by omega); omega)]
        · rw [if_neg hk, if_pos ⟨h, fun _ => by omega⟩]
      · rw [if_neg h0, if_pos ⟨h, fun h1 => by omega⟩]
    · rw [if_neg h, if_neg (by decide), if_neg (fun hh => h hh.1)]
  rcases search1 l.length (fun k i => snowlineref01_valid.l0 k i a b l) (BadAt l) (fun _ => false) true
    (fun k i hi hb _ => by rw [step k i hi, if_neg hb]) (fun k i hi hb _ => by rw [step k i hi, if_pos (Classical.not_not.1 hb)]) (fun k _ => by simp only [snowlineref01_valid.l0]; rw [if_neg (by omega)]) with ⟨i, hi, hb, _, hev⟩ | ⟨hall, hev⟩
  · exact .inl ⟨fun h => hb (h i hi), hev⟩
  · exact .inr ⟨fun i hi => Classical.not_not.1 (hall i hi), hev⟩
theorem valid_eq (no rate : Int) (l : List S26) (hn : l.length ≤ 100) : (¬ OkS no rate l ∧ Ev (fun k => snowlineref01_valid.f k no rate l) false) ∨ (OkS no rate l ∧ Ev (fun k => snowlineref01_valid.f k no rate l) true) := by
  have bad : Ev (fun k => snowlineref01_valid.j0 k true no rate l) false := Ev.step (fun k => by simp only [snowlineref01_valid.j0]; rfl) (Ev.now false)
  simp only [snowlineref01_valid.f, ref_Number_eq, Option.bind_some, decide_eq_true_eq]
  by_cases a : NoOk no
  · by_cases b : rate < 0
    · exact .inl ⟨fun h => by have := h.2.1; omega, by simp only [if_pos a, if_pos b]; exact bad⟩
    · by_cases c : rate > 1000
      · exact .inl ⟨fun h => by have := h.2.2.1; omega, by simp only [if_pos a, if_neg b, if_pos c]; exact bad⟩
      · simp only [if_pos a, if_neg b, if_neg c]
        by_cases d : (l.length : Int) > 64
        · exact .inl ⟨fun h => by have := h.2.2.2.1; omega, by simp only [decide_eq_true d]; exact bad⟩
        · simp only [decide_eq_false d]
          rcases valid_loop l no rate hn with ⟨h, hev⟩ | ⟨h, hev⟩
          · exact .inl ⟨fun hh => h hh.2.2.2.2, Ev.step (fun k => by simp only [snowlineref01_valid.j0]; rw [if_neg (by decide)]) hev⟩
          · exact .inr ⟨⟨a, by omega, by omega, by omega, h⟩, Ev.step (fun k => by simp only [snowlineref01_valid.j0]; rw [if_neg (by decide)]) hev⟩
  · exact .inl ⟨fun h => a h.1, by simp only [if_neg a]; exact bad⟩
def dist (a b : Int) : Int := if a < b then b - a else a - b
theorem dist_range {a b : Int} (ha : DayOk a) (hb : DayOk b) : 0 ≤ dist a b ∧ dist a b ≤ 1048576 := by unfold dist DayOk at *; split <;> omega
theorem dist_comm (a b : Int) : dist a b = dist b a := by unfold dist; split <;> split <;> omega
theorem mulb {a b : Int} (h0 : 0 ≤ a) (h1 : a ≤ 1000) (h2 : 0 ≤ b) (h3 : b ≤ 1048576) : 0 ≤ a * b ∧ a * b ≤ 1048576000 :=
  ⟨Int.mul_nonneg h0 h2, Int.le_trans (Int.mul_le_mul h1 h3 h2 (by omega)) (by omega)⟩
def Con (rate : Int) (t u : S26) : Prop := rate * dist t.f0 u.f0 < t.f2 - u.f3 ∨ rate * dist t.f0 u.f0 < u.f2 - t.f3
instance (rate : Int) (t u : S26) : Decidable (Con rate t u) := by unfold Con; infer_instance
theorem con_def {rate : Int} {t u : S26} : Con rate t u ↔ rate * dist t.f0 u.f0 < t.f2 - u.f3 ∨ rate * dist t.f0 u.f0 < u.f2 - t.f3 := Iff.rfl
theorem course_apart_eq {a b : Int} (h : -4611686018427387904 ≤ a ∧ a ≤ 4611686018427387903) (h' : -4611686018427387904 ≤ b ∧ b ≤ 4611686018427387903) : course_apart.f a b = some (dist a b) := by
  unfold course_apart.f dist mx
  rw [w64 (by omega) (by omega), w64 (by omega) (by omega)]
  congr 1
  split <;> split <;> omega
theorem ref_far_eq {a b : Int} (h : -4611686018427387904 ≤ a ∧ a ≤ 4611686018427387903) (h' : -4611686018427387904 ≤ b ∧ b ≤ 4611686018427387903) : snowlineref01_far.f a b = some (dist a b) := by
  unfold snowlineref01_far.f dist
  rw [w64 (by omega) (by omega), w64 (by omega) (by omega)]
  split <;> rfl
theorem day_b {a : Int} (h : DayOk a) : -4611686018427387904 ≤ a ∧ a ≤ 4611686018427387903 := by unfold DayOk at h; omega
theorem course_contradict_eq {rate : Int} {t u : S26} (h0 : 0 ≤ rate) (h1 : rate ≤ 1000) (ht : OkT t) (hu : OkT u) : course_contradict.f rate t.f0 t.f1 t.f2 t.f3 u.f0 u.f1 u.f2 u.f3 = some (decide (Con rate t u)) := by
  obtain ⟨t0, t1, t2, t3, t4⟩ := ht
  obtain ⟨u0, u1, u2, u3, u4⟩ := hu
  have d := dist_range t0 u0
  have m := mulb h0 h1 d.1 d.2
  unfold course_contradict.f
  rw [course_apart_eq (day_b t0) (day_b u0)]
  simp only [Option.bind_some]
  rw [w64 (x := rate * _) (by omega) (by omega), w64 (x := t.f2 - u.f3) (by omega) (by omega), w64 (x := u.f2 - t.f3) (by omega) (by omega)]
  refine congrArg some (decide_eq_decide.2 ?_)
  rw [con_def]
  unfold mx
  split <;> omega
theorem ref_apart_eq {rate : Int} {t u : S26} (h0 : 0 ≤ rate) (h1 : rate ≤ 1000) (ht : OkT t) (hu : OkT u) : snowlineref01_apart.f rate t.f0 t.f1 t.f2 t.f3 u.f0 u.f1 u.f2 u.f3 = some (decide (Con rate t u)) := by
  obtain ⟨t0, t1, t2, t3, t4⟩ := ht
  obtain ⟨u0, u1, u2, u3, u4⟩ := hu
  have d := dist_range t0 u0
  have m := mulb h0 h1 d.1 d.2
  unfold snowlineref01_apart.f
  rw [ref_far_eq (day_b t0) (day_b u0)]
  simp only [Option.bind_some]
  rw [w64 (x := rate * _) (by omega) (by omega), w64 (x := t.f2 - u.f3) (by omega) (by omega), w64 (x := u.f2 - t.f3) (by omega) (by omega)]
  split
  · rename_i h
    rw [decide_eq_true (show Con rate t u from .inl h)]
  · rename_i h
    refine congrArg some (decide_eq_decide.2 ?_)
    rw [con_def]
    omega
def PairIs (rate : Int) (l : List S26) (r : Int × Int × Bool) : Prop :=
  (∃ i j : Nat, i < j ∧ j < l.length ∧ Con rate (at26 l i) (at26 l j) ∧ (∀ a b, a < b → b < l.length → a < i ∨ a = i ∧ b < j → ¬ Con rate (at26 l a) (at26 l b)) ∧ r = ((i : Int), (j : Int), true)) ∨
  (∀ a b, a < b → b < l.length → ¬ Con rate (at26 l a) (at26 l b)) ∧ r = (0, 0, false)
theorem okL_at {l : List S26} {n i : Nat} (h : OkL l n) (hi : i < n) : OkT (at26 l i) := (h i hi).1
theorem course_Apart_loop (no rate : Int) (l : List S26) (h0 : 0 ≤ rate) (h1 : rate ≤ 1000) (hn : l.length ≤ 100) (hl : OkL l l.length) :
    ∃ r, PairIs rate l r ∧ Ev (fun k => course_Apart.l0 k l (l.length : Int) 0 no rate l) (r.1, r.2.1, r.2.2, 0) := by
  rcases search2 l.length (fun k i => course_Apart.l0 k l (l.length : Int) i no rate l)
    (fun k i j => course_Apart.l1 k i j l (l.length : Int) i no rate l (rd_T26 l i).f0 (rd_T26 l i).f1 (rd_T26 l i).f2 (rd_T26 l i).f3)
    (fun i j => Con rate (at26 l i) (at26 l j)) (fun i j => ((i : Int), (j : Int), true, (0 : Int))) (0, 0, false, 0)
    (fun k i hi => by
      have hw : wrap64 ((i : Int) + 1) = (i : Int) + 1 := w64 (by omega) (by omega)
      simp only [course_Apart.l0]
      rw [if_pos (by omega), if_pos (by omega), if_pos (by omega), hw])
    (fun k => by simp only [course_Apart.l0]; rw [if_neg (by omega)])
    (fun k i j hij hj hc => by
      simp only [course_Apart.l1]
      rw [if_pos (by omega), if_pos (by omega), rd_at26, rd_at26, course_contradict_eq h0 h1 (okL_at hl (by omega)) (okL_at hl hj), decide_eq_true hc]
      rfl)
    (fun k i j hij hj hc => by
      have hw : wrap64 ((j : Int) + 1) = (j : Int) + 1 := w64 (by omega) (by omega)
      simp only [course_Apart.l1]
      rw [if_pos (by omega), if_pos (by omega), rd_at26, rd_at26, course_contradict_eq h0 h1 (okL_at hl (by omega)) (okL_at hl hj), decide_eq_false hc, hw]
      rfl)
    (fun k i hi => by
      have hw : wrap64 ((i : Int) + 1) = (i : Int) + 1 := w64 (by omega) (by omega)
      simp only [course_Apart.l1]
      rw [if_neg (by omega), hw]) with ⟨i, j, hij, hj, hc, hf, hev⟩ | ⟨hall, hev⟩
  · exact ⟨_, .inl ⟨i, j, hij, hj, hc, hf, rfl⟩, hev⟩
  · exact ⟨_, .inr ⟨hall, rfl⟩, hev⟩
theorem ref_pair_eq (no rate : Int) (l : List S26) (h0 : 0 ≤ rate) (h1 : rate ≤ 1000) (hn : l.length ≤ 100) (hl : OkL l l.length) :
    ∃ r, PairIs rate l r ∧ Ev (fun k => snowlineref01_pair.f k no rate l) r := by
  unfold snowlineref01_pair.f
  rcases search2 l.length (fun k i => snowlineref01_pair.l0 k i no rate l) (fun k i j => snowlineref01_pair.l1 k i j no rate l)
    (fun i j => Con rate (at26 l i) (at26 l j)) (fun i j => ((i : Int), (j : Int), true)) (0, 0, false)
    (fun k i hi => by
      have hw : wrap64 ((i : Int) + 1) = (i : Int) + 1 := w64 (by omega) (by omega)
      simp only [snowlineref01_pair.l0]
      rw [if_pos (by omega), hw])
    (fun k => by simp only [snowlineref01_pair.l0]; rw [if_neg (by omega)])
    (fun k i j hij hj hc => by
      simp only [snowlineref01_pair.l1]
      rw [if_pos (by omega), if_pos (by omega), if_pos (by omega), if_pos (by omega), rd_at26, rd_at26, ref_apart_eq h0 h1 (okL_at hl (by omega)) (okL_at hl hj), decide_eq_true hc]
      rfl)
    (fun k i j hij hj hc => by
      have hw : wrap64 ((j : Int) + 1) = (j : Int) + 1 := w64 (by omega) (by omega)
      simp only [snowlineref01_pair.l1]
      rw [if_pos (by omega), if_pos (by omega), if_pos (by omega), if_pos (by omega), rd_at26, rd_at26, ref_apart_eq h0 h1 (okL_at hl (by omega)) (okL_at hl hj), decide_eq_false hc, hw]
      rfl)
    (fun k i hi => by
      have hw : wrap64 ((i : Int) + 1) = (i : Int) + 1 := w64 (by omega) (by omega)
      simp only [snowlineref01_pair.l1]
      rw [if_neg (by omega), hw]) with ⟨i, j, hij, hj, hc, hf, hev⟩ | ⟨hall, hev⟩
  · exact ⟨_, .inl ⟨i, j, hij, hj, hc, hf, rfl⟩, hev⟩
  · exact ⟨_, .inr ⟨hall, rfl⟩, hev⟩
theorem course_Apart_eq (no rate : Int) (l : List S26) (hn : l.length ≤ 100) :
    (¬ OkS no rate l ∧ Ev (fun k => course_Apart.f k no rate l) (0, 0, false, 11)) ∨ (OkS no rate l ∧ ∃ r, PairIs rate l r ∧ Ev (fun k => course_Apart.f k no rate l) (r.1, r.2.1, r.2.2, 0)) := by
  unfold course_Apart.f
  rcases well_eq no rate l hn with ⟨h, hev⟩ | ⟨h, hev⟩
  · exact .inl ⟨h, Ev.bind hev (Ev.now _)⟩
  · obtain ⟨r, hr, hev2⟩ := course_Apart_loop no rate l h.2.1 h.2.2.1 hn h.2.2.2.2
    exact .inr ⟨h, r, hr, Ev.bind hev hev2⟩
def NoCon (rate : Int) (l : List S26) : Prop := ∀ a b, a < b → b < l.length → ¬ Con rate (at26 l a) (at26 l b)
def ErrS (no rate : Int) (l : List S26) (e : Int) : Prop := (¬ OkS no rate l ∧ e = 11) ∨ (OkS no rate l ∧ ¬ NoCon rate l ∧ e = 13) ∨ (OkS no rate l ∧ NoCon rate l ∧ e = 0)
theorem ErrS.same {no rate : Int} {l : List S26} {e e' : Int} (h : ErrS no rate l e) (h' : ErrS no rate l e') : e = e' := by
  rcases h with ⟨a, rfl⟩ | ⟨a, b, rfl⟩ | ⟨a, b, rfl⟩ <;> rcases h' with ⟨a', rfl⟩ | ⟨a', b', rfl⟩ | ⟨a', b', rfl⟩ <;> first | rfl | exact absurd a' a | exact absurd a a' | exact absurd b' b | exact absurd b b'
theorem ErrS.zero {no rate : Int} {l : List S26} {e : Int} (h : ErrS no rate l e) : e = 0 ↔ OkS no rate l ∧ NoCon rate l := by
  rcases h with ⟨a, rfl⟩ | ⟨a, b, rfl⟩ | ⟨a, b, rfl⟩
  · exact ⟨fun h => by omega, fun h => absurd h.1 a⟩
  · exact ⟨fun h => by omega, fun h => absurd h.2 b⟩
  · exact ⟨fun _ => ⟨a, b⟩, fun _ => rfl⟩
theorem PairIs.errS {no rate : Int} {l : List S26} {r : Int × Int × Bool} (h : OkS no rate l) (hr : PairIs rate l r) : ErrS no rate l (if r.2.2 = true then 13 else 0) := by
  rcases hr with ⟨i, j, hij, hj, hc, _, rfl⟩ | ⟨hall, rfl⟩
  · exact .inr (.inl ⟨h, fun hh => hh i j hij hj hc, rfl⟩)
  · exact .inr (.inr ⟨h, hall, rfl⟩)
theorem course_CheckScale_eq (no rate : Int) (l : List S26) (hn : l.length ≤ 100) : ∃ e, ErrS no rate l e ∧ Ev (fun k => course_CheckScale.f k no rate l) e := by
  unfold course_CheckScale.f
  rcases course_Apart_eq no rate l hn with ⟨h, hev⟩ | ⟨h, r, hr, hev⟩
  · exact ⟨11, .inl ⟨h, rfl⟩, Ev.bind hev (Ev.const (by rfl))⟩
  · refine ⟨_, hr.errS h, Ev.bind hev (Ev.const ?_)⟩
    cases r.2.2 <;> rfl
theorem ref_CheckScale_eq (no rate : Int) (l : List S26) (hn : l.length ≤ 100) : ∃ e, ErrS no rate l e ∧ Ev (fun k => snowlineref01_CheckScale.f k no rate l) e := by
  unfold snowlineref01_CheckScale.f
  rcases valid_eq no rate l hn with ⟨h, hev⟩ | ⟨h, hev⟩
  · exact ⟨11, .inl ⟨h, rfl⟩, Ev.bind hev (Ev.now _)⟩
  · obtain ⟨r, hr, hev2⟩ := ref_pair_eq no rate l h.2.1 h.2.2.1 hn h.2.2.2.2
    refine ⟨_, hr.errS h, Ev.bind hev (Ev.bind hev2 (Ev.const ?_))⟩
    cases r.2.2 <;> rfl
end Go.Proofs.YtapijkdgkajoeaaDoor.PF
end
section
namespace Go.Proofs.YtapijkdgkajoeaaDoor.PF
open Go.RowKit Go.Proofs.YtapijkdgkajoeaaDoorW.PrintWords Go.Proofs.YtapijkdgkajoeaaDoorW.PrintLast Go.Proofs.YtapijkdgkajoeaaDoorW.PrintMore
attribute [local go_sem] max2_int min2_int max_two min_two
set_option linter.unusedVariables false
set_option linter.unusedSimpArgs false
attribute [local go_sem high] ixA103_1
def course_all.f  : Option (Int × Int) := some ((-1048576), 1048576)
set_option maxHeartbeats 8000000 in
set_option maxRecDepth 100000 in
theorem course_all.calls  (r1 : Int) (r2 : Int) (w : World) (h : course_all.f  = some (r1, r2)) :
  Calls Tryd.prog 129 #[] w fun e w' => e = .returned (.agg #[.int .i64 r1, .int .i64 r2]) ∧ Below w.heap.size w w' := by
 have hu103 := Tryd.underlying103
 have HB := Bw.mk (Below.refl w.heap.size w)
 have H : (some ((-1048576), 1048576)) = some (r1, r2) := h
 clear h
 simp only [Option.some.injEq, Prod.mk.injEq] at H
 obtain ⟨rfl, rfl⟩ := H
 go_enter Tryd.func129, Tryd.ntmps129
 go_wp2_with (first | ((with_reducible refine gate_dst (N := 0) rfl ?_); refine bxE 0 103 #[.int .i64 0, .int .i64 0] (by rfl) (by rfl) (by first | (go_simp; done) | (go_simp; rfl)) ?_; intro gb142 hg w1 hbox hb; have BK142 := Bk.mk (hbox); have GE142 := eB w hg; replace HB := bS w hb; clear hb hbox hg; obtain ⟨hcz2_0, hcz2_1, hfz2_0, hfz2_1⟩ := cz2 BK142))
 all_goals (refine bodyPost_ret (results_cell_row rfl _ _ gb142 103 #[.int .i64 (-1048576), .int .i64 1048576] (0, 0) _ rfl (bko gb142 (by rfl)) Tryd.underlying103 rfl (by kernel_rfl)) rfl ?_; exact ⟨by first | rfl | (simp [errW_none, errW_some] <;> rfl) | (simp [*, errW_none, errW_some] <;> rfl), bw w⟩)
def course_ends_meet.f (a0_0 : Int) (a0_1 : Int) (a1_0 : Int) (a1_1 : Int) : Option (Int × Int) := some (mx a0_0 a1_0, mn a0_1 a1_1)
set_option maxHeartbeats 8000000 in
set_option maxRecDepth 100000 in
theorem course_ends_meet.calls (a0_0 : Int) (a0_1 : Int) (a1_0 : Int) (a1_1 : Int) (r1 : Int) (r2 : Int) (w : World) (h : course_ends_meet.f a0_0 a0_1 a1_0 a1_1 = some (r1, r2)) :
  Calls Tryd.prog 130 #[.agg #[.int .i64 a0_0, .int .i64 a0_1], .agg #[.int .i64 a1_0, .int .i64 a1_1]] w fun e w' => e = .returned (.agg #[.int .i64 r1, .int .i64 r2]) ∧ Below w.heap.size w w' := by
 have hu103 := Tryd.underlying103
 have HB := Bw.mk (Below.refl w.heap.size w)
 have H : (some (mx a0_0 a1_0, mn a0_1 a1_1)) = some (r1, r2) := h
 clear h
 obtain ⟨ji3, hji3⟩ : ∃ j_ : Int, (mx a0_0 a1_0) = j_ := ⟨_, rfl⟩
 replace H : (some (ji3, mn a0_1 a1_1)) = some (r1, r2) := by first | (rw [hji3] at H; exact H) | (simp only [hji3] at H ⊢; exact H)
 have hji3_ : (if a0_0 < a1_0 then a1_0 else a0_0) = ji3 := hji3
 obtain ⟨ji4, hji4⟩ : ∃ j_ : Int, (mn a0_1 a1_1) = j_ := ⟨_, rfl⟩
 replace H : (some (ji3, ji4)) = some (r1, r2) := by first | (rw [hji4] at H; exact H) | (simp only [hji4] at H ⊢; exact H)
 have hji4_ : (if a1_1 < a0_1 then a1_1 else a0_1) = ji4 := hji4
 simp only [Option.some.injEq, Prod.mk.injEq] at H
 obtain ⟨rfl, rfl⟩ := H
 go_enter Tryd.func130, Tryd.ntmps130
 go_wp2_with (first | ((with_reducible refine gate_dst (N := 2) rfl ?_); refine bxE 2 103 #[.int .i64 a0_0, .int .i64 a0_1] (by rfl) (by rfl) (by first | (go_simp; done) | (go_simp; rfl)) ?_; intro gb143 hg w5 hbox hb; have BK143 := Bk.mk (hbox); have GE143 := eB w hg; replace HB := bS w hb; clear hb hbox hg) | ((with_reducible refine gate_dst (N := 3) rfl ?_); refine bxE 3 103 #[.int .i64 a1_0, .int .i64 a1_1] (by rfl) (by rfl) (by first | (go_simp; done) | (go_simp; rfl)) ?_; intro gb144 hg w6 hbox hb; have BK144 := Bk.mk (hbox); have GE144 := eB w hg; have NB143_144 := nB gb143 hg; replace BK143 := kB gb143 hb; replace HB := bS w hb; clear hb hbox hg) | ((with_reducible refine gate_dst (N := 4) rfl ?_); refine bxE 4 103 #[.int .i64 0, .int .i64 0] (by rfl) (by rfl) (by first | (go_simp; done) | (go_simp; rfl)) ?_; intro gb145 hg w7 hbox hb; have BK145 := Bk.mk (hbox); have GE145 := eB w hg; have NB143_145 := nB gb143 hg; have NB144_145 := nB gb144 hg; replace BK143 := kB gb143 hb; replace BK144 := kB gb144 hb; replace HB := bS w hb; clear hb hbox hg; obtain ⟨hnb8, hnc8⟩ := nn NB143_144; obtain ⟨hnb9, hnc9⟩ := nn NB143_145; obtain ⟨hcz10_0, hcz10_1, hfz10_0, hfz10_1⟩ := cz2 BK143; obtain ⟨hnb11, hnc11⟩ := nn NB144_145; obtain ⟨hcz12_0, hcz12_1, hfz12_0, hfz12_1⟩ := cz2 BK144; obtain ⟨hcz13_0, hcz13_1, hfz13_0, hfz13_1⟩ := cz2 BK145))
 all_goals (refine bodyPost_ret (results_cell_row rfl _ _ gb145 103 #[.int .i64 ji3, .int .i64 ji4] (0, 0) _ rfl (bko gb145 (by rfl)) Tryd.underlying103 rfl (by kernel_rfl)) rfl ?_; exact ⟨by first | rfl | (simp [errW_none, errW_some] <;> rfl) | (simp only [← hji3, ← hji4]; first | rfl | (simp [errW_none, errW_some] <;> rfl)) | (simp [*, errW_none, errW_some] <;> rfl), bw w⟩)
def course_ends_wider.f (a0_0 : Int) (a0_1 : Int) (a1 : Int) : Option (Int × Int) := some (wrap64 (a0_0 - a1), wrap64 (a0_1 + a1))
set_option maxHeartbeats 8000000 in
set_option maxRecDepth 100000 in
theorem course_ends_wider.calls (a0_0 : Int) (a0_1 : Int) (a1 : Int) (r1 : Int) (r2 : Int) (w : World) (h : course_ends_wider.f a0_0 a0_1 a1 = some (r1, r2)) :
  Calls Tryd.prog 131 #[.agg #[.int .i64 a0_0, .int .i64 a0_1], .int .i64 a1] w fun e w' => e = .returned (.agg #[.int .i64 r1, .int .i64 r2]) ∧ Below w.heap.size w w' := by
 have hu103 := Tryd.underlying103
 have HB := Bw.mk (Below.refl w.heap.size w)
 have H : (some (wrap64 (a0_0 - a1), wrap64 (a0_1 + a1))) = some (r1, r2) := h
 clear h
 simp only [Option.some.injEq, Prod.mk.injEq] at H
 obtain ⟨rfl, rfl⟩ := H
 go_enter Tryd.func131, Tryd.ntmps131
 go_wp2_with (first | ((with_reducible refine gate_dst (N := 2) rfl ?_); refine bxE 2 103 #[.int .i64 a0_0, .int .i64 a0_1] (by rfl) (by rfl) (by first | (go_simp; done) | (go_simp; rfl)) ?_; intro gb146 hg w3 hbox hb; have BK146 := Bk.mk (hbox); have GE146 := eB w hg; replace HB := bS w hb; clear hb hbox hg) | ((with_reducible refine gate_dst (N := 4) rfl ?_); refine bxE 4 103 #[.int .i64 0, .int .i64 0] (by rfl) (by rfl) (by first | (go_simp; done) | (go_simp; rfl)) ?_; intro gb147 hg w4 hbox hb; have BK147 := Bk.mk (hbox); have GE147 := eB w hg; have NB146_147 := nB gb146 hg; replace BK146 := kB gb146 hb; replace HB := bS w hb; clear hb hbox hg; obtain ⟨hnb5, hnc5⟩ := nn NB146_147; obtain ⟨hcz6_0, hcz6_1, hfz6_0, hfz6_1⟩ := cz2 BK146; obtain ⟨hcz7_0, hcz7_1, hfz7_0, hfz7_1⟩ := cz2 BK147))
 all_goals (refine bodyPost_ret (results_cell_row rfl _ _ gb147 103 #[.int .i64 (wrap64 (a0_0 - a1)), .int .i64 (wrap64 (a0_1 + a1))] (0, 0) _ rfl (bko gb147 (by rfl)) Tryd.underlying103 rfl (by kernel_rfl)) rfl ?_; exact ⟨by first | rfl | (simp [errW_none, errW_some] <;> rfl) | (simp [*, errW_none, errW_some] <;> rfl), bw w⟩)
def course_drift.l0 : Nat → Int → Int → List (S26) → Int → Int → Int → Int → List (S26) → Int → Int → Option (Int × Int)
 | 0, _, _, _, _, _, _, _, _, _, _ => none
 | k + 1, x1, x2, x12, x13, x14, x149000, x149001, x149002, x153000, x153001 => if x14 < x13 then (if 0 ≤ x14 then (if x14 < (x12.length : Int) then (if ((rd_T26 x12 x14).f1) ≤ x2 then ((course_apart.f ((rd_T26 x12 x14).f0) x1).bind fun t155 => ((course_ends_wider.f ((rd_T26 x12 x14).f2) ((rd_T26 x12 x14).f3) (wrap64 (x149001 * t155))).bind fun bt156 => ((course_ends_meet.f x153000 x153001 bt156.1 bt156.2).bind fun bt158 => (course_drift.l0 k x1 x2 x12 x13 (wrap64 (x14 + 1)) x149000 x149001 x149002 bt158.1 bt158.2)))) else (course_drift.l0 k x1 x2 x12 x13 (wrap64 (x14 + 1)) x149000 x149001 x149002 x153000 x153001)) else (none)) else (none)) else (some (x153000, x153001))
def course_drift.f (k : Nat) (a0_0 : Int) (a0_1 : Int) (l0_2 : List (S26)) (a1 : Int) (a2 : Int) : Option (Int × Int) := (course_all.f).bind fun bt150 => (course_drift.l0 k a1 a2 l0_2 (l0_2.length : Int) 0 a0_0 a0_1 l0_2 bt150.1 bt150.2)
theorem course_drift.mono_l : ∀ k, (∀ y0 y1 y2 y3 y4 y5 y6 y7 y8 y9, LeO (course_drift.l0 k y0 y1 y2 y3 y4 y5 y6 y7 y8 y9) (course_drift.l0 (k + 1) y0 y1 y2 y3 y4 y5 y6 y7 y8 y9))
 | 0 => fun _ _ _ _ _ _ _ _ _ _ r h => by simp [course_drift.l0] at h
 | k + 1 => by
  have ih0 := course_drift.mono_l k
  ·
   intro y0 y1 y2 y3 y4 y5 y6 y7 y8 y9
   unfold course_drift.l0
   repeat' first
   | (with_reducible exact ih0 _ _ _ _ _ _ _ _ _ _)
   | (with_reducible exact LeO.refl _)
   | (with_reducible exact LeO.none _)
   | (with_reducible refine LeO.ite ?_ ?_)
   | (with_reducible refine LeO.bind ?_ (fun _ => ?_))
   | exact ih0 _ _ _ _ _ _ _ _ _ _
   | exact LeO.none _
   | refine LeO.ite ?_ ?_
   | refine LeO.bind ?_ (fun _ => ?_)
theorem course_drift.mono : ∀ a0 a1 a2 a3 a4 k, LeO (course_drift.f k a0 a1 a2 a3 a4) (course_drift.f (k + 1) a0 a1 a2 a3 a4) := by
 intro a0 a1 a2 a3 a4 k
 have ih0 := course_drift.mono_l k
 unfold course_drift.f
 repeat' first
   | (with_reducible exact ih0 _ _ _ _ _ _ _ _ _ _)
   | (with_reducible exact LeO.refl _)
   | (with_reducible exact LeO.none _)
   | (with_reducible refine LeO.ite ?_ ?_)
   | (with_reducible refine LeO.bind ?_ (fun _ => ?_))
   | exact ih0 _ _ _ _ _ _ _ _ _ _
   | exact LeO.none _
   | refine LeO.ite ?_ ?_
   | refine LeO.bind ?_ (fun _ => ?_)
def course_drift.T6 : Bool × List (List Nat × List Nat) := (true, [([], []), ([], []), ([1], [1]), ([], []), ([3], [3]), ([2, 4], [2, 4]), ([], []), ([6], [6]), ([], []), ([8], [8]), ([], []), ([9, 10], [9, 10]), ([7, 11], [7, 11]), ([5, 12, 11], [5, 12]), ([0, 13, 13], [0, 13]), ([14, 14, 0, 1, 2, 3, 4, 5, 6, 7, 8, 9, 10, 11, 12, 13, 14], [14])])
def course_drift.B6 : List Nat := [0, 0, 2, 0, 8, 30, 0, 64, 0, 256, 0, 1792, 4032, 8190, 16383, 32767]
theorem course_drift.tab6 : rtab .any (opsOf Tryd.f77 6) = course_drift.T6 := by kernel_rfl
theorem course_drift.bits6 : waitsOk course_drift.T6.2 course_drift.B6 = true := by kernel_rfl
set_option maxHeartbeats 8000000 in
set_option maxRecDepth 100000 in
theorem course_drift.calls (k : Nat) (a0_0 : Int) (a0_1 : Int) (A0_2 : Option Addr) (c0_2 : Nat) (l0_2 : List (S26)) (a1 : Int) (a2 : Int) (r1 : Int) (r2 : Int) (w : World) (hr0_2 : Kd.C k26 w A0_2 l0_2.length l0_2) (hc0_2 : l0_2.length ≤ c0_2) (h : course_drift.f k a0_0 a0_1 l0_2 a1 a2 = some (r1, r2)) :
  Calls Tryd.prog 77 #[.agg #[.int .i64 a0_0, .int .i64 a0_1, .slice A0_2 l0_2.length c0_2], .int .i64 a1, .int .i64 a2] w fun e w' => e = .returned (.agg #[.int .i64 r1, .int .i64 r2]) ∧ Below w.heap.size w w' := by
 have hu24 := Tryd.underlying24
 have hu103 := Tryd.underlying103
 have hu26 := Tryd.underlying26
 have HR0_2 := Aside0.mk (hr0_2)
 have HC0_2 := Aside0.mk (hc0_2)
 clear hr0_2 hc0_2
 have HB := Bw.mk (Below.refl w.heap.size w)
 have H : ((course_all.f).bind fun bt150 => (course_drift.l0 k a1 a2 l0_2 (l0_2.length : Int) 0 a0_0 a0_1 l0_2 bt150.1 bt150.2)) = some (r1, r2) := h
 clear h
 replace H := Option.bind_eq_some_iff.mp H
 obtain ⟨⟨t150, t151⟩, A40, H⟩ := H
 have A4 := Aside0.mk (A40)
 clear A40
 have H' := Aside0.mk H
 clear H
 go_enter Tryd.func77, Tryd.ntmps77
 go_wp2_with (first | ((with_reducible refine gate_dst (N := 3) rfl ?_); refine bxE 3 24 #[.int .i64 a0_0, .int .i64 a0_1, .slice A0_2 l0_2.length c0_2] (by rfl) (by rfl) (by first | (go_simp; done) | (go_simp; rfl)) ?_; intro gb148 hg w5 hbox hb; have BK148 := Bk.mk (hbox); have GE148 := eB w hg; replace HB := bS w hb; clear hb hbox hg) | ((with_reducible refine gate_dst (N := 6) rfl ?_); refine bxE 6 103 #[.int .i64 0, .int .i64 0] (by rfl) (by rfl) (by first | (go_simp; done) | (go_simp; rfl)) ?_; intro gb149 hg w6 hbox hb; have BK149 := Bk.mk (hbox); have GE149 := eB w hg; have NB148_149 := nB gb148 hg; replace BK148 := kB gb148 hb; replace HB := bS w hb; clear hb hbox hg) | ((with_reducible refine gate_callee (f := 129) rfl ?_); refine goesLM (some 10) rfl rfl Tryd.func129 (by kernel_rfl) rfl #[] rfl (by rfl) ?_; (with_reducible refine (course_all.calls  t150 t151 _ A4.out).mono ?_); rintro e w7 ⟨rfl, hb⟩; refine ⟨_, rfl, ?_⟩; replace BK148 := kB gb148 hb; replace BK149 := kB gb149 hb; replace HB := bS w hb; (try clear hb)) | ((with_reducible refine gate_dst (N := 7) rfl ?_); refine bxE 7 103 #[.int .i64 0, .int .i64 0] (by rfl) (by rfl) (by first | (go_simp; done) | (go_simp; rfl)) ?_; intro gb152 hg w8 hbox hb; have BK152 := Bk.mk (hbox); have GE152 := eB w hg; have NB148_152 := nB gb148 hg; have NB149_152 := nB gb149 hg; replace BK148 := kB gb148 hb; replace BK149 := kB gb149 hb; replace HB := bS w hb; clear hb hbox hg; obtain ⟨hnc9, hnb9⟩ := nn NB148_152; obtain ⟨hnc10, hnb10⟩ := nn NB149_152; obtain ⟨hcz11_0, hcz11_1, hfz11_0, hfz11_1⟩ := cz2 BK152; obtain ⟨hnb12, hnc12⟩ := nn NB148_149; obtain ⟨hcz13_0, hcz13_1, hcz13_2, hfz13_0, hfz13_1, hfz13_2⟩ := cz3 BK148))
 go_loopg [14] k (fun kq v14 w' => ∃ (x14_1 : Int) (x153000_1 : Int) (x153001_1 : Int), v14 = .int .i64 x14_1 ∧ Aside0 (course_drift.l0 kq a1 a2 l0_2 (l0_2.length : Int) x14_1 a0_0 a0_1 l0_2 x153000_1 x153001_1 = some (r1, r2)) ∧ Aside0 (kq ≤ k) ∧ Bk w' gb148 (.cells #[.int .i64 a0_0, .int .i64 a0_1, (.slice A0_2 l0_2.length c0_2)] 24 (0, 0)) ∧ Bk w' gb149 (.cells #[.int .i64 0, .int .i64 0] 103 (0, 0)) ∧ Bk w' gb152 (.cells #[.int .i64 x153000_1, .int .i64 x153001_1] 103 (0, 0)) ∧ Bw w w')
 case atStart => exact ⟨(0), (t150), (t151), (by first | rfl | (simp; done) | (simp [*]; done)), H', ⟨Nat.le_refl _⟩, ⟨bko gb148 (by rfl)⟩, ⟨bko gb149 (by rfl)⟩, ⟨bko gb152 (by rfl)⟩, inferInstance⟩
 case round =>
  clear H'
  try clear c1
  try clear p2
  try clear c7
  try clear c9
  try clear c10
  try clear c12
  obtain ⟨x14_1, x153000_1, x153001_1, rfl, HA, HK1, BK148, BK149, BK152, HB⟩ := hrel
  cases gk with
  | zero => exact absurd HA.out (by simp [course_drift.l0])
  | succ k1 =>
   have H := HA.out
   clear HA
   simp only [course_drift.l0] at H
   by_cases c14 : x14_1 < (l0_2.length : Int)
   ·
    rw [if_pos c14] at H
    have c14b0 : decide (x14_1 < (l0_2.length : Int)) = true := decide_eq_true c14
    clear c14
    by_cases c15 : 0 ≤ x14_1
    ·
     rw [if_pos c15] at H
     have c15b0 : decide (0 ≤ x14_1) = true := decide_eq_true c15
     clear c15
     by_cases c16 : x14_1 < (l0_2.length : Int)
     ·
      rw [if_pos c16] at H
      have c16b0 : decide (x14_1 < (l0_2.length : Int)) = true := decide_eq_true c16
      clear c16
      by_cases c17 : ((rd_T26 l0_2 x14_1).f1) ≤ a2
      ·
       rw [if_pos c17] at H
       have c17b0 : decide (((rd_T26 l0_2 x14_1).f1) ≤ a2) = true := decide_eq_true c17
       clear c17
       replace H := Option.bind_eq_some_iff.mp H
       obtain ⟨t155, A180, H⟩ := H
       have A18 := Aside0.mk (A180)
       clear A180
       replace H := Option.bind_eq_some_iff.mp H
       obtain ⟨⟨t156, t157⟩, A190, H⟩ := H
       have A19 := Aside0.mk (A190)
       clear A190
       replace H := Option.bind_eq_some_iff.mp H
       obtain ⟨⟨t158, t159⟩, A200, H⟩ := H
       have A20 := Aside0.mk (A200)
       clear A200
       have H' := Aside0.mk H
       clear H
       have p153 : 0 ≤ (x14_1 : Int) := of_decide_eq_true (by first | (with_reducible assumption) | assumption)
       have q153 : x14_1 < (l0_2.length : Int) := of_decide_eq_true (by first | (with_reducible assumption) | assumption)
       obtain ⟨ad153, e153, hx153_0, hx153_1, hx153_2, hx153_3⟩ := at_T26 HR0_2.out x14_1 p153 q153
       cases e153
       replace hx153_0 := cB HB hx153_0
       replace hx153_1 := cB HB hx153_1
       replace hx153_2 := cB HB hx153_2
       replace hx153_3 := cB HB hx153_3
       replace p153 := eq_true p153
       replace q153 := eq_true q153
       try go_wp2_with (first | ((with_reducible refine gate_dst (N := 9) rfl ?_); refine bxE 9 26 #[.int .i64 0, .int .i64 0, .int .i64 0, .int .i64 0] (by rfl) (by rfl) (by first | (go_simp; done) | (go_simp; rfl)) ?_; intro gb154 hg w21 hbox hb; have BK154 := Bk.mk (hbox); have GE154 := eB w hg; have NB148_154 := nB gb148 hg; have NB149_154 := nB gb149 hg; have NB152_154 := nB gb152 hg; replace BK148 := kB gb148 hb; replace BK149 := kB gb149 hb; replace BK152 := kB gb152 hb; replace HB := bS w hb; clear hb hbox hg; obtain ⟨hnc22, hnb22⟩ := nn NB148_154; obtain ⟨hnc23, hnb23⟩ := nn NB149_154; obtain ⟨hnc24, hnb24⟩ := nn NB152_154; obtain ⟨hcz25_0, hcz25_1, hcz25_2, hcz25_3, hfz25_0, hfz25_1, hfz25_2, hfz25_3⟩ := cz4 BK154))
       have n0_ : Bk ((((w21.setCell ⟨gb154, 0, none⟩ (.int .i64 ((rd_T26 l0_2 x14_1).f0))).setCell ⟨gb154, 1, none⟩ (.int .i64 ((rd_T26 l0_2 x14_1).f1))).setCell ⟨gb154, 2, none⟩ (.int .i64 ((rd_T26 l0_2 x14_1).f2))).setCell ⟨gb154, 3, none⟩ (.int .i64 ((rd_T26 l0_2 x14_1).f3))) gb148 (.cells #[.int .i64 a0_0, .int .i64 a0_1, .slice (some ad153) l0_2.length c0_2] 24 (0, 0)) := ⟨bko gb148 (by rfl)⟩
       have n1_ : Bk ((((w21.setCell ⟨gb154, 0, none⟩ (.int .i64 ((rd_T26 l0_2 x14_1).f0))).setCell ⟨gb154, 1, none⟩ (.int .i64 ((rd_T26 l0_2 x14_1).f1))).setCell ⟨gb154, 2, none⟩ (.int .i64 ((rd_T26 l0_2 x14_1).f2))).setCell ⟨gb154, 3, none⟩ (.int .i64 ((rd_T26 l0_2 x14_1).f3))) gb149 (.cells #[.int .i64 0, .int .i64 0] 103 (0, 0)) := ⟨bko gb149 (by rfl)⟩
       have n2_ : Bk ((((w21.setCell ⟨gb154, 0, none⟩ (.int .i64 ((rd_T26 l0_2 x14_1).f0))).setCell ⟨gb154, 1, none⟩ (.int .i64 ((rd_T26 l0_2 x14_1).f1))).setCell ⟨gb154, 2, none⟩ (.int .i64 ((rd_T26 l0_2 x14_1).f2))).setCell ⟨gb154, 3, none⟩ (.int .i64 ((rd_T26 l0_2 x14_1).f3))) gb152 (.cells #[.int .i64 x153000_1, .int .i64 x153001_1] 103 (0, 0)) := ⟨bko gb152 (by rfl)⟩
       have n3_ : Bk ((((w21.setCell ⟨gb154, 0, none⟩ (.int .i64 ((rd_T26 l0_2 x14_1).f0))).setCell ⟨gb154, 1, none⟩ (.int .i64 ((rd_T26 l0_2 x14_1).f1))).setCell ⟨gb154, 2, none⟩ (.int .i64 ((rd_T26 l0_2 x14_1).f2))).setCell ⟨gb154, 3, none⟩ (.int .i64 ((rd_T26 l0_2 x14_1).f3))) gb154 (.cells #[.int .i64 ((rd_T26 l0_2 x14_1).f0), .int .i64 ((rd_T26 l0_2 x14_1).f1), .int .i64 ((rd_T26 l0_2 x14_1).f2), .int .i64 ((rd_T26 l0_2 x14_1).f3)] 26 (0, 0)) := ⟨bko gb154 (by rfl)⟩
       have n4_ : Bw w ((((w21.setCell ⟨gb154, 0, none⟩ (.int .i64 ((rd_T26 l0_2 x14_1).f0))).setCell ⟨gb154, 1, none⟩ (.int .i64 ((rd_T26 l0_2 x14_1).f1))).setCell ⟨gb154, 2, none⟩ (.int .i64 ((rd_T26 l0_2 x14_1).f2))).setCell ⟨gb154, 3, none⟩ (.int .i64 ((rd_T26 l0_2 x14_1).f3))) := inferInstance
       (try clear BK148)
       (try clear BK149)
       (try clear BK152)
       (try clear BK154)
       (try clear HB)
       generalize ((((w21.setCell ⟨gb154, 0, none⟩ (.int .i64 ((rd_T26 l0_2 x14_1).f0))).setCell ⟨gb154, 1, none⟩ (.int .i64 ((rd_T26 l0_2 x14_1).f1))).setCell ⟨gb154, 2, none⟩ (.int .i64 ((rd_T26 l0_2 x14_1).f2))).setCell ⟨gb154, 3, none⟩ (.int .i64 ((rd_T26 l0_2 x14_1).f3))) = w26 at n0_ n1_ n2_ n3_ n4_ ⊢
       have BK148 := n0_
       have BK149 := n1_
       have BK152 := n2_
       have BK154 := n3_
       have HB := n4_
       clear n0_ n1_ n2_ n3_ n4_
       have n0_ := Bk.mk (blk_drew BK148.out)
       have n1_ := Bk.mk (blk_drew BK149.out)
       have n2_ := Bk.mk (blk_drew BK152.out)
       have n3_ := Bk.mk (blk_drew BK154.out)
       have n4_ := Bw.mk (below_drew1 HB.out)
       clear BK148 BK149 BK152 BK154 HB
       have BK148 := n0_
       have BK149 := n1_
       have BK152 := n2_
       have BK154 := n3_
       have HB := n4_
       clear n0_ n1_ n2_ n3_ n4_
       refine start_ (n := 16) (S := fun w' => w'.cell? ⟨gb152, 0, none⟩ = some (.int .i64 x153000_1) ∧ w'.cell? ⟨gb152, 1, none⟩ = some (.int .i64 x153001_1) ∧ w'.cell? ⟨gb154, 0, none⟩ = some (.int .i64 ((rd_T26 l0_2 x14_1).f0)) ∧ w'.cell? ⟨gb154, 1, none⟩ = some (.int .i64 ((rd_T26 l0_2 x14_1).f1)) ∧ w'.cell? ⟨gb154, 2, none⟩ = some (.int .i64 ((rd_T26 l0_2 x14_1).f2)) ∧ w'.cell? ⟨gb154, 3, none⟩ = some (.int .i64 ((rd_T26 l0_2 x14_1).f3)) ∧ w'.cell? ⟨gb148, 0, none⟩ = some (.int .i64 a0_0) ∧ w'.cell? ⟨gb148, 1, none⟩ = some (.int .i64 a0_1) ∧ w'.cell? ⟨gb148, 2, none⟩ = some (.slice (some ad153) l0_2.length c0_2)) (ds := [15]) #[false, false, false, false, false, false, false, false, false, false, false, false, false, false, false, false] (by kernel_rfl) rfl rfl ⟨bc BK152 0, bc BK152 1, bc BK154 0, bc BK154 1, bc BK154 2, bc BK154 3, bc BK148 0, bc BK148 1, bc BK148 2⟩ (fun hHeld => ?_); refine with_tabW course_drift.tab6 course_drift.bits6 (fun HT_ HW_ => ?_)
       generalize w26.drew = w27 at BK148 BK149 BK152 BK154 HB hHeld ⊢
       refine pS 1 (some 23) rfl rfl (any_of HT_.out (by kernel_rfl)) (fun _ _ _ h => h) (by rfl) (fun w' => by go_simp; with_reducible rfl) (by simp only [Act.put, List.setIfInBounds_toArray, List.set_cons_zero, List.set_cons_succ, i64_w]; rfl) ?_
       refine pS 3 (some 25) rfl rfl (any_of HT_.out (by kernel_rfl)) (fun _ _ _ h => h) (by rfl) (fun w' => by go_simp; with_reducible rfl) (by simp only [Act.put, List.setIfInBounds_toArray, List.set_cons_zero, List.set_cons_succ, i64_w]; rfl) ?_
       refine pS 6 (some 28) rfl rfl (any_of HT_.out (by kernel_rfl)) (fun _ _ _ h => h) (by rfl) (fun w' => by go_simp; with_reducible rfl) (by simp only [Act.put, List.setIfInBounds_toArray, List.set_cons_zero, List.set_cons_succ, i64_w]; rfl) ?_
       refine pS 8 (some 30) rfl rfl (any_of HT_.out (by kernel_rfl)) (fun _ _ _ h => h) (by rfl) (fun w' => by go_simp; with_reducible rfl) (by simp only [Act.put, List.setIfInBounds_toArray, List.set_cons_zero, List.set_cons_succ, i64_w]; rfl) ?_
       refine pS 10 (some 32) rfl rfl (any_of HT_.out (by kernel_rfl)) (fun _ _ _ h => h) (by rfl) (fun w' => by go_simp; with_reducible rfl) (by simp only [Act.put, List.setIfInBounds_toArray, List.set_cons_zero, List.set_cons_succ, i64_w]; rfl) ?_
       refine tS 0 (some 22) rfl rfl (take_ofW HT_.out HW_.out (by kernel_rfl)) (fun _ _ _ h => h) (by rfl) (by rintro w' ⟨s0, s1, s2, s3, s4, s5, s6, s7, s8⟩; go_simp; with_reducible rfl) hHeld (by simp only [Act.put, List.setIfInBounds_toArray, List.set_cons_zero, List.set_cons_succ, i64_w]; rfl) ?_
       refine tS 2 (some 24) rfl rfl (take_ofW HT_.out HW_.out (by kernel_rfl)) (fun _ _ _ h => h) (by rfl) (by rintro w' ⟨s0, s1, s2, s3, s4, s5, s6, s7, s8⟩; go_simp; with_reducible rfl) hHeld (by simp only [Act.put, List.setIfInBounds_toArray, List.set_cons_zero, List.set_cons_succ, i64_w]; rfl) ?_
       refine tS 4 (some 26) rfl rfl (take_ofW HT_.out HW_.out (by kernel_rfl)) (fun _ _ _ h => h) (by rfl) (by rintro w' ⟨s0, s1, s2, s3, s4, s5, s6, s7, s8⟩; go_simp; with_reducible rfl) hHeld (by simp only [Act.put, List.setIfInBounds_toArray, List.set_cons_zero, List.set_cons_succ, i64_w]; rfl) ?_
       refine pS 5 (some 27) rfl rfl (any_of HT_.out (by kernel_rfl)) (fun _ _ _ h => h) (by rfl) (fun w' => by go_simp; with_reducible rfl) (by simp only [Act.put, List.setIfInBounds_toArray, List.set_cons_zero, List.set_cons_succ, i64_w]; rfl) ?_
       refine tS 7 (some 29) rfl rfl (take_ofW HT_.out HW_.out (by kernel_rfl)) (fun _ _ _ h => h) (by rfl) (by rintro w' ⟨s0, s1, s2, s3, s4, s5, s6, s7, s8⟩; go_simp; with_reducible rfl) hHeld (by simp only [Act.put, List.setIfInBounds_toArray, List.set_cons_zero, List.set_cons_succ, i64_w]; rfl) ?_
       refine tS 9 (some 31) rfl rfl (take_ofW HT_.out HW_.out (by kernel_rfl)) (fun _ _ _ h => h) (by rfl) (by rintro w' ⟨s0, s1, s2, s3, s4, s5, s6, s7, s8⟩; go_simp; with_reducible rfl) hHeld (by simp only [Act.put, List.setIfInBounds_toArray, List.set_cons_zero, List.set_cons_succ, i64_w]; rfl) ?_
       refine one_ (i := 11) (N := some 33) #[true, true, true, true, true, true, true, true, true, true, true, true, false, false, false, false] rfl rfl (one_of HT_.out (by kernel_rfl)) (by decide) (fun K hK => ?_)
       refine goesM Tryd.func101 (by kernel_rfl) rfl #[.int .i64 ((rd_T26 l0_2 x14_1).f0), .int .i64 a1] (by rfl) rfl rfl (by rfl) ?_
       with_reducible refine (course_apart.calls ((rd_T26 l0_2 x14_1).f0) a1 t155 _ A18.out).mono ?_
       rintro e w28 ⟨rfl, hb⟩
       refine ⟨_, rfl, ?_⟩
       replace BK148 := kB gb148 hb
       replace BK149 := kB gb149 hb
       replace BK152 := kB gb152 hb
       replace BK154 := kB gb154 hb
       replace HB := bS w hb
       (try clear hb)
       refine hK.out _ _ ⟨bc BK152 0, bc BK152 1, bc BK154 0, bc BK154 1, bc BK154 2, bc BK154 3, bc BK148 0, bc BK148 1, bc BK148 2⟩ (fun hHeld => ?_)
       clear hK K
       refine norm_ (a' := ?_) ?_ ?_
       rotate_left
       ·
        show Act.put _ (some 33) _ = _
        simp only [Act.put, List.setIfInBounds_toArray, List.set_cons_zero, List.set_cons_succ, i64_w]
        rfl
       refine pS 12 (some 34) rfl rfl (any_of HT_.out (by kernel_rfl)) (fun _ _ _ h => h) (by rfl) (fun w' => by go_simp; with_reducible rfl) (by simp only [Act.put, List.setIfInBounds_toArray, List.set_cons_zero, List.set_cons_succ, i64_w]; rfl) ?_
       refine one_ (i := 13) (N := some 35) #[true, true, true, true, true, true, true, true, true, true, true, true, true, true, false, false] rfl rfl (one_of HT_.out (by kernel_rfl)) (by decide) (fun K hK => ?_)
       refine goesM Tryd.func131 (by kernel_rfl) rfl #[.agg #[.int .i64 ((rd_T26 l0_2 x14_1).f2), .int .i64 ((rd_T26 l0_2 x14_1).f3)], .int .i64 (wrap64 (a0_1 * t155))] (by rfl) rfl rfl (by rfl) ?_
       with_reducible refine (course_ends_wider.calls ((rd_T26 l0_2 x14_1).f2) ((rd_T26 l0_2 x14_1).f3) (wrap64 (a0_1 * t155)) t156 t157 _ A19.out).mono ?_
       rintro e w29 ⟨rfl, hb⟩
       refine ⟨_, rfl, ?_⟩
       replace BK148 := kB gb148 hb
       replace BK149 := kB gb149 hb
       replace BK152 := kB gb152 hb
       replace BK154 := kB gb154 hb
       replace HB := bS w hb
       (try clear hb)
       refine hK.out _ _ ⟨bc BK152 0, bc BK152 1, bc BK154 0, bc BK154 1, bc BK154 2, bc BK154 3, bc BK148 0, bc BK148 1, bc BK148 2⟩ (fun hHeld => ?_)
       clear hK K
       refine norm_ (a' := ?_) ?_ ?_
       rotate_left
       ·
        show Act.put _ (some 35) _ = _
        simp only [Act.put, List.setIfInBounds_toArray, List.set_cons_zero, List.set_cons_succ, i64_w]
        rfl
       refine one_ (i := 14) (N := some 36) #[true, true, true, true, true, true, true, true, true, true, true, true, true, true, true, false] rfl rfl (one_of HT_.out (by kernel_rfl)) (by decide) (fun K hK => ?_)
       refine goesM Tryd.func130 (by kernel_rfl) rfl #[.agg #[.int .i64 x153000_1, .int .i64 x153001_1], .agg #[.int .i64 t156, .int .i64 t157]] (by rfl) rfl rfl (by rfl) ?_
       with_reducible refine (course_ends_meet.calls x153000_1 x153001_1 t156 t157 t158 t159 _ A20.out).mono ?_
       rintro e w30 ⟨rfl, hb⟩
       refine ⟨_, rfl, ?_⟩
       replace BK148 := kB gb148 hb
       replace BK149 := kB gb149 hb
       replace BK152 := kB gb152 hb
       replace BK154 := kB gb154 hb
       replace HB := bS w hb
       (try clear hb)
       refine hK.out _ _ ⟨bc BK152 0, bc BK152 1, bc BK154 0, bc BK154 1, bc BK154 2, bc BK154 3, bc BK148 0, bc BK148 1, bc BK148 2⟩ (fun hHeld => ?_)
       clear hK K
       refine norm_ (a' := ?_) ?_ ?_
       rotate_left
       ·
        show Act.put _ (some 36) _ = _
        simp only [Act.put, List.setIfInBounds_toArray, List.set_cons_zero, List.set_cons_succ, i64_w]
        rfl
       refine last_ (i := 15) (N := none) #[true, true, true, true, true, true, true, true, true, true, true, true, true, true, true, true] rfl rfl (one_of HT_.out (by kernel_rfl)) (by decide) (fun K hK => ?_)
       have hs31 : w30.cell? ⟨gb152, 0, none⟩ = some (.int .i64 x153000_1) := bc BK152 0
       have hfs31 := blk_frozen BK152.out 0
       have hns31_0 := NB148_152.out
       have hns31_1 := NB149_152.out
       have hns31_3 := NB152_154.out.symm
       have hms31_0 := NB148_152.out.symm
       have hms31_1 := NB149_152.out.symm
       have hms31_3 := NB152_154.out
       have hs32 : w30.cell? ⟨gb152, 1, none⟩ = some (.int .i64 x153001_1) := bc BK152 1
       have hfs32 := blk_frozen BK152.out 1
       have hns32_0 := NB148_152.out
       have hns32_1 := NB149_152.out
       have hns32_3 := NB152_154.out.symm
       have hms32_0 := NB148_152.out.symm
       have hms32_1 := NB149_152.out.symm
       have hms32_3 := NB152_154.out
       refine skip_ (w1 := ?_) (by rfl) rfl ?_ ?_
       rotate_left
       ·
        go_simp
        rfl
       refine hK.out _ _ ?_
       clear hK K
       refine done_ (done_of HT_.out (by kernel_rfl)) ?_
       try go_wp2
       go_roundg k1
       case measure => have := HK1.out; omega
       case rel => exact ⟨(wrap64 (x14_1 + 1)), (t158), (t159), (by first | rfl | (simp; done) | (simp [*]; done)), H', ⟨by have := HK1.out; omega⟩, ⟨bko gb148 (by rfl)⟩, ⟨bko gb149 (by rfl)⟩, ⟨bko gb152 (by rfl)⟩, inferInstance⟩
      ·
       rw [if_neg c17] at H
       have c17b0 : decide (((rd_T26 l0_2 x14_1).f1) ≤ a2) = false := decide_eq_false c17
       clear c17
       have H' := Aside0.mk H
       clear H
       have p153 : 0 ≤ (x14_1 : Int) := of_decide_eq_true (by first | (with_reducible assumption) | assumption)
       have q153 : x14_1 < (l0_2.length : Int) := of_decide_eq_true (by first | (with_reducible assumption) | assumption)
       obtain ⟨ad153, e153, hx153_0, hx153_1, hx153_2, hx153_3⟩ := at_T26 HR0_2.out x14_1 p153 q153
       cases e153
       replace hx153_0 := cB HB hx153_0
       replace hx153_1 := cB HB hx153_1
       replace hx153_2 := cB HB hx153_2
       replace hx153_3 := cB HB hx153_3
       replace p153 := eq_true p153
       replace q153 := eq_true q153
       go_wp2_with (first | ((with_reducible refine gate_dst (N := 9) rfl ?_); refine bxE 9 26 #[.int .i64 0, .int .i64 0, .int .i64 0, .int .i64 0] (by rfl) (by rfl) (by first | (go_simp; done) | (go_simp; rfl)) ?_; intro gb154 hg w33 hbox hb; have BK154 := Bk.mk (hbox); have GE154 := eB w hg; have NB148_154 := nB gb148 hg; have NB149_154 := nB gb149 hg; have NB152_154 := nB gb152 hg; replace BK148 := kB gb148 hb; replace BK149 := kB gb149 hb; replace BK152 := kB gb152 hb; replace HB := bS w hb; clear hb hbox hg; obtain ⟨hnc34, hnb34⟩ := nn NB148_154; obtain ⟨hnc35, hnb35⟩ := nn NB149_154; obtain ⟨hnc36, hnb36⟩ := nn NB152_154; obtain ⟨hcz37_0, hcz37_1, hcz37_2, hcz37_3, hfz37_0, hfz37_1, hfz37_2, hfz37_3⟩ := cz4 BK154))
       go_roundg k1
       case measure => have := HK1.out; omega
       case rel => exact ⟨(wrap64 (x14_1 + 1)), (x153000_1), (x153001_1), (by first | rfl | (simp; done) | (simp [*]; done)), H', ⟨by have := HK1.out; omega⟩, ⟨bko gb148 (by rfl)⟩, ⟨bko gb149 (by rfl)⟩, ⟨bko gb152 (by rfl)⟩, inferInstance⟩
     ·
      rw [if_neg c16] at H
      exact absurd H (by simp)
    ·
     rw [if_neg c15] at H
     exact absurd H (by simp)
   ·
    rw [if_neg c14] at H
    have c14b0 : decide (x14_1 < (l0_2.length : Int)) = false := decide_eq_false c14
    clear c14
    simp only [Option.some.injEq, Prod.mk.injEq] at H
    obtain ⟨rfl, rfl⟩ := H
    obtain ⟨hnc38, hnb38⟩ := nn NB148_152
    obtain ⟨hnc39, hnb39⟩ := nn NB149_152
    obtain ⟨hcz40_0, hcz40_1, hfz40_0, hfz40_1⟩ := cz2 BK152
    obtain ⟨hnc41, hnb41⟩ := nn NB148_149
    obtain ⟨hcz42_0, hcz42_1, hfz42_0, hfz42_1⟩ := cz2 BK149
    go_wp2
    all_goals (refine bodyPost_ret (results_cell_row rfl _ _ gb149 103 #[.int .i64 x153000_1, .int .i64 x153001_1] (0, 0) _ rfl (bko gb149 (by rfl)) Tryd.underlying103 rfl (by kernel_rfl)) rfl ?_; exact ⟨by first | rfl | (simp [errW_none, errW_some] <;> rfl) | (simp [*, errW_none, errW_some] <;> rfl), bw w⟩)
def course_Drift.f (k : Nat) (a0_0 : Int) (a0_1 : Int) (l0_2 : List (S26)) (a1 : Int) (a2 : Int) : Option (Int × Int × Int) := (course_ask.f k a0_0 a0_1 l0_2 (([a1, a2] : List Int))).bind fun t165 => (if t165 = 0 then ((course_drift.f k a0_0 a0_1 l0_2 a1 a2).bind fun bt166 => (some (bt166.1, bt166.2, 0))) else (some (0, 0, t165)))
theorem course_Drift.mono : ∀ a0 a1 a2 a3 a4 k, LeO (course_Drift.f k a0 a1 a2 a3 a4) (course_Drift.f (k + 1) a0 a1 a2 a3 a4) := by
 intro a0 a1 a2 a3 a4 k
 unfold course_Drift.f
 repeat' first
   | (with_reducible exact course_ask.mono _ _ _ _ _)
   | (with_reducible exact course_drift.mono _ _ _ _ _ _)
   | (with_reducible exact LeO.refl _)
   | (with_reducible exact LeO.none _)
   | (with_reducible refine LeO.ite ?_ ?_)
   | (with_reducible refine LeO.bind ?_ (fun _ => ?_))
   | exact course_ask.mono _ _ _ _ _
   | exact course_drift.mono _ _ _ _ _ _
   | exact LeO.none _
   | refine LeO.ite ?_ ?_
   | refine LeO.bind ?_ (fun _ => ?_)
set_option maxHeartbeats 8000000 in
set_option maxRecDepth 100000 in
theorem course_Drift.calls (k : Nat) (a0_0 : Int) (a0_1 : Int) (A0_2 : Option Addr) (c0_2 : Nat) (l0_2 : List (S26)) (a1 : Int) (a2 : Int) (r1 : Int) (r2 : Int) (r3 : Int) (w : World) (hr0_2 : Kd.C k26 w A0_2 l0_2.length l0_2) (hc0_2 : l0_2.length ≤ c0_2) (h : course_Drift.f k a0_0 a0_1 l0_2 a1 a2 = some (r1, r2, r3)) :
  Calls Tryd.prog 23 #[.agg #[.int .i64 a0_0, .int .i64 a0_1, .slice A0_2 l0_2.length c0_2], .int .i64 a1, .int .i64 a2] w fun e w' => e = .returned (.tuple #[.agg #[.int .i64 r1, .int .i64 r2], .int .i64 r3]) ∧ Below w.heap.size w w' := by
 have hu24 := Tryd.underlying24
 have hu40 := Tryd.underlying40
 have hu103 := Tryd.underlying103
 have HR0_2 := Aside0.mk (hr0_2)
 have HC0_2 := Aside0.mk (hc0_2)
 clear hr0_2 hc0_2
 have HB := Bw.mk (Below.refl w.heap.size w)
 have H : ((course_ask.f k a0_0 a0_1 l0_2 (([a1, a2] : List Int))).bind fun t165 => (if t165 = 0 then ((course_drift.f k a0_0 a0_1 l0_2 a1 a2).bind fun bt166 => (some (bt166.1, bt166.2, 0))) else (some (0, 0, t165)))) = some (r1, r2, r3) := h
 clear h
 obtain ⟨y162, hy162⟩ : ∃ y_ : List Int, y_ = (([a1, a2] : List Int)) := ⟨_, rfl⟩
 replace H : ((course_ask.f k a0_0 a0_1 l0_2 y162).bind fun t165 => (if t165 = 0 then ((course_drift.f k a0_0 a0_1 l0_2 a1 a2).bind fun bt166 => (some (bt166.1, bt166.2, 0))) else (some (0, 0, t165)))) = some (r1, r2, r3) := by first | (rw [hy162]; with_reducible exact H) | (have H2_ := (Option.bind_some _ _).symm.trans H; rw [hy162]; with_reducible exact H2_) | (have H2_ := (Option.bind_some _ _).symm.trans H; with_reducible exact H2_) | with_reducible exact H | (rw [hy162]; exact H) | exact H
 have Ny162 := Aside0.mk (hy162)
 clear hy162
 replace H := Option.bind_eq_some_iff.mp H
 obtain ⟨t165, A40, H⟩ := H
 have A4 := Aside0.mk (A40)
 clear A40
 by_cases c5 : t165 = 0
 ·
  rw [if_pos c5] at H
  have c5b0 : (t165 == 0) = true := beq_iff_eq.mpr c5
  have c5b1 : (t165 != 0) = false := bne_eq_false_iff_eq.mpr c5
  clear c5
  replace H := Option.bind_eq_some_iff.mp H
  obtain ⟨⟨t166, t167⟩, A60, H⟩ := H
  have A6 := Aside0.mk (A60)
  clear A60
  simp only [Option.some.injEq, Prod.mk.injEq] at H
  obtain ⟨rfl, rfl, rfl⟩ := H
  go_enter Tryd.func23, Tryd.ntmps23
  go_wp2_with (first | ((with_reducible refine gate_dst (N := 3) rfl ?_); refine bxE 3 24 #[.int .i64 a0_0, .int .i64 a0_1, .slice A0_2 l0_2.length c0_2] (by rfl) (by rfl) (by first | (go_simp; done) | (go_simp; rfl)) ?_; intro gb160 hg w7 hbox hb; have BK160 := Bk.mk (hbox); have GE160 := eB w hg; replace HB := bS w hb; clear hb hbox hg) | ((with_reducible refine gate_dst (N := 6) rfl ?_); refine bxE 6 40 #[.int .i64 0, .int .i64 0] (by rfl) (by rfl) (by first | (go_simp; done) | (go_simp; rfl)) ?_; intro gb161 hg w8 hbox hb; have BK161 := Bk.mk (hbox); have GE161 := eB w hg; have NB160_161 := nB gb160 hg; replace BK160 := kB gb160 hb; replace HB := bS w hb; clear hb hbox hg; obtain ⟨hnb9, hnc9⟩ := nn NB160_161; obtain ⟨hcz10_0, hcz10_1, hcz10_2, hfz10_0, hfz10_1, hfz10_2⟩ := cz3 BK160) | ((with_reducible refine gate_dst (N := 13) rfl ?_); refine Kd.R_lit (Kd.int .i64) _ 3 ?hg (N := 13) ?hd (xs := ([a1, a2] : List Int)) (inner := [.int .i64 a1, .int .i64 a2]) (ok := fun _ => True) (okp := fun _ => True) ?hr ?hp (fun _ hk => hk) trivial (Below.refl _ _) (Nat.le_refl _) (by simp) ?_; (case hd => rfl); (case hg => rfl); (case hr => first | (go_simp; done) | (go_simp; rfl)); (case hp => exact (Reps.one (show Kd.M (Kd.int .i64) _ _ _ a1 [.int .i64 a1] from rfl) (Reps.one (show Kd.M (Kd.int .i64) _ _ _ a2 [.int .i64 a2] from rfl) (Reps.none _ _)))); intro v163 w11 ho12 hb hg_ hnew_; clear hg_ hnew_; (first | rw [← Ny162.out] at ho12 | (simp only [Int.reduceToNat] at ho12; rw [← Ny162.out] at ho12)); have n0_ := Aside0.mk (Kd.R_lower ho12 (bz w)); replace BK160 := kB gb160 hb; replace BK161 := kB gb161 hb; replace HB := bS w hb; have HO164 := n0_; clear n0_ hb ho12; obtain ⟨Ao13, co13, eo13⟩ := Kd.R_slice HO164.out; subst eo13) | ((with_reducible refine gate_callee (f := 76) rfl ?_); refine goesLM (some 14) rfl rfl Tryd.func76 (by kernel_rfl) rfl #[.agg #[.int .i64 a0_0, .int .i64 a0_1, .slice A0_2 l0_2.length c0_2], .slice Ao13 y162.length co13] rfl (by rfl) ?_; (with_reducible refine (course_ask.calls k a0_0 a0_1 _ _ l0_2 _ _ y162 t165 _ ?side1 ?side2 ?side3 ?side4 A4.out).mono ?_); (case side1 => exact cP (Kd.C_below HR0_2.out HB.out)); (case side2 => exact HC0_2.out); (case side3 => exact cP (Kd.R_reads' HO164.out).2.2); (case side4 => exact (Kd.R_reads' HO164.out).2.1); rintro e w14 ⟨rfl, hb⟩; refine ⟨_, rfl, ?_⟩; replace HO164 := rB HO164 hb; replace BK160 := kB gb160 hb; replace BK161 := kB gb161 hb; replace HB := bS w hb; (try clear hb); obtain ⟨hcz15_0, hcz15_1, hcz15_2, hfz15_0, hfz15_1, hfz15_2⟩ := cz3 BK160) | ((with_reducible refine gate_callee (f := 77) rfl ?_); refine goesLM (some 22) rfl rfl Tryd.func77 (by kernel_rfl) rfl #[.agg #[.int .i64 a0_0, .int .i64 a0_1, .slice A0_2 l0_2.length c0_2], .int .i64 a1, .int .i64 a2] rfl (by rfl) ?_; (with_reducible refine (course_drift.calls k a0_0 a0_1 _ _ l0_2 a1 a2 t166 t167 _ ?side1 ?side2 A6.out).mono ?_); (case side1 => exact cP (Kd.C_below HR0_2.out HB.out)); (case side2 => exact HC0_2.out); rintro e w16 ⟨rfl, hb⟩; refine ⟨_, rfl, ?_⟩; replace HO164 := rB HO164 hb; replace BK160 := kB gb160 hb; replace BK161 := kB gb161 hb; replace HB := bS w hb; (try clear hb)) | ((with_reducible refine gate_dst (N := 9) rfl ?_); refine bxE 9 103 #[.int .i64 0, .int .i64 0] (by rfl) (by rfl) (by first | (go_simp; done) | (go_simp; rfl)) ?_; intro gb168 hg w17 hbox hb; have BK168 := Bk.mk (hbox); have GE168 := eB w hg; have NB160_168 := nB gb160 hg; have NB161_168 := nB gb161 hg; replace HO164 := rB HO164 hb; replace BK160 := kB gb160 hb; replace BK161 := kB gb161 hb; replace HB := bS w hb; clear hb hbox hg; obtain ⟨hnc18, hnb18⟩ := nn NB160_168; obtain ⟨hnc19, hnb19⟩ := nn NB161_168; obtain ⟨hcz20_0, hcz20_1, hfz20_0, hfz20_1⟩ := cz2 BK168; obtain ⟨hcz21_0, hcz21_1, hfz21_0, hfz21_1⟩ := cz2 BK161))
  all_goals (refine bodyPost_ret (results_ct rfl _ _ gb161 40 #[.int .i64 t166, .int .i64 t167] (0, 0) _ rfl (bko gb161 (by rfl)) Tryd.underlying40 rfl (by kernel_rfl)) rfl ?_; exact ⟨by first | rfl | (simp [errW_none, errW_some] <;> rfl) | (simp [*, errW_none, errW_some] <;> rfl), bw w⟩)
 ·
  rw [if_neg c5] at H
  have c5b0 : (t165 == 0) = false := beq_eq_false_iff_ne.mpr c5
  have c5b1 : (t165 != 0) = true := bne_iff_ne.mpr c5
  simp only [Option.some.injEq, Prod.mk.injEq] at H
  obtain ⟨rfl, rfl, rfl⟩ := H
  go_enter Tryd.func23, Tryd.ntmps23
  go_wp2_with (first | ((with_reducible refine gate_dst (N := 3) rfl ?_); refine bxE 3 24 #[.int .i64 a0_0, .int .i64 a0_1, .slice A0_2 l0_2.length c0_2] (by rfl) (by rfl) (by first | (go_simp; done) | (go_simp; rfl)) ?_; intro gb160 hg w22 hbox hb; have BK160 := Bk.mk (hbox); have GE160 := eB w hg; replace HB := bS w hb; clear hb hbox hg) | ((with_reducible refine gate_dst (N := 6) rfl ?_); refine bxE 6 40 #[.int .i64 0, .int .i64 0] (by rfl) (by rfl) (by first | (go_simp; done) | (go_simp; rfl)) ?_; intro gb161 hg w23 hbox hb; have BK161 := Bk.mk (hbox); have GE161 := eB w hg; have NB160_161 := nB gb160 hg; replace BK160 := kB gb160 hb; replace HB := bS w hb; clear hb hbox hg; obtain ⟨hnb24, hnc24⟩ := nn NB160_161; obtain ⟨hcz25_0, hcz25_1, hcz25_2, hfz25_0, hfz25_1, hfz25_2⟩ := cz3 BK160) | ((with_reducible refine gate_dst (N := 13) rfl ?_); refine Kd.R_lit (Kd.int .i64) _ 3 ?hg (N := 13) ?hd (xs := ([a1, a2] : List Int)) (inner := [.int .i64 a1, .int .i64 a2]) (ok := fun _ => True) (okp := fun _ => True) ?hr ?hp (fun _ hk => hk) trivial (Below.refl _ _) (Nat.le_refl _) (by simp) ?_; (case hd => rfl); (case hg => rfl); (case hr => first | (go_simp; done) | (go_simp; rfl)); (case hp => exact (Reps.one (show Kd.M (Kd.int .i64) _ _ _ a1 [.int .i64 a1] from rfl) (Reps.one (show Kd.M (Kd.int .i64) _ _ _ a2 [.int .i64 a2] from rfl) (Reps.none _ _)))); intro v163 w26 ho27 hb hg_ hnew_; clear hg_ hnew_; (first | rw [← Ny162.out] at ho27 | (simp only [Int.reduceToNat] at ho27; rw [← Ny162.out] at ho27)); have n0_ := Aside0.mk (Kd.R_lower ho27 (bz w)); replace BK160 := kB gb160 hb; replace BK161 := kB gb161 hb; replace HB := bS w hb; have HO164 := n0_; clear n0_ hb ho27; obtain ⟨Ao28, co28, eo28⟩ := Kd.R_slice HO164.out; subst eo28) | ((with_reducible refine gate_callee (f := 76) rfl ?_); refine goesLM (some 14) rfl rfl Tryd.func76 (by kernel_rfl) rfl #[.agg #[.int .i64 a0_0, .int .i64 a0_1, .slice A0_2 l0_2.length c0_2], .slice Ao28 y162.length co28] rfl (by rfl) ?_; (with_reducible refine (course_ask.calls k a0_0 a0_1 _ _ l0_2 _ _ y162 t165 _ ?side1 ?side2 ?side3 ?side4 A4.out).mono ?_); (case side1 => exact cP (Kd.C_below HR0_2.out HB.out)); (case side2 => exact HC0_2.out); (case side3 => exact cP (Kd.R_reads' HO164.out).2.2); (case side4 => exact (Kd.R_reads' HO164.out).2.1); rintro e w29 ⟨rfl, hb⟩; refine ⟨_, rfl, ?_⟩; replace HO164 := rB HO164 hb; replace BK160 := kB gb160 hb; replace BK161 := kB gb161 hb; replace HB := bS w hb; (try clear hb); obtain ⟨hcz30_0, hcz30_1, hfz30_0, hfz30_1⟩ := cz2 BK161))
  all_goals (refine bodyPost_ret (results_ct rfl _ _ gb161 40 #[.int .i64 0, .int .i64 0] (0, 0) _ rfl (bko gb161 (by rfl)) Tryd.underlying40 rfl (by kernel_rfl)) rfl ?_; exact ⟨by first | rfl | (simp [errW_none, errW_some] <;> rfl) | (simp [*, errW_none, errW_some] <;> rfl), bw w⟩)
end Go.Proofs.YtapijkdgkajoeaaDoor.PF
end
