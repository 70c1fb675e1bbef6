/- For every input, with the program's own tables laid as its text lays them, the law CourseDrifts returns true and leaves its arguments as they read; no condition. Part 4 of 5. -/
import Derived.Test.YtapijkdgkajoeaaDoorDrC
section
namespace Go.Proofs.YtapijkdgkajoeaaDoor.PF
open Go.RowKit Go.Proofs.YtapijkdgkajoeaaDoorW.PrintWords Go.Proofs.YtapijkdgkajoeaaDoorW.PrintLast Go.Proofs.YtapijkdgkajoeaaDoorW.PrintMore
attribute [local go_sem] max2_int min2_int max_two min_two
set_option linter.unusedVariables false
set_option linter.unusedSimpArgs false
attribute [local go_sem high] ixA103_1
def course_sheetOf.f (k : Nat) (a0_0 : Int) (a0_1 : Int) (l0_2 : List (S26)) (a1_0 : Int) (a1_1 : Int) (a1_2 : Int) (a1_3 : Int) (a1_4 : Int) (a1_5 : Int) (a1_6 : Int) (a1_7 : Int) (l1_8 : List (S71)) (a2 : Int) : Option (Int) := (course_CheckScale.f k a0_0 a0_1 l0_2).bind fun t221 => (if t221 = 0 then ((course_CheckSheet.f k a1_0 a1_1 a1_2 a1_3 a1_4 a1_5 a1_6 a1_7 l1_8).bind fun t222 => (if t222 = 0 then (if a0_0 = a1_4 then ((course_day.f a2).bind fun t223 => (if t223 = true then (some 0) else (some 1))) else (some 1)) else (some t222))) else (some t221))
theorem course_sheetOf.mono : ∀ a0 a1 a2 a3 a4 a5 a6 a7 a8 a9 a10 a11 a12 k, LeO (course_sheetOf.f k a0 a1 a2 a3 a4 a5 a6 a7 a8 a9 a10 a11 a12) (course_sheetOf.f (k + 1) a0 a1 a2 a3 a4 a5 a6 a7 a8 a9 a10 a11 a12) := by
 intro a0 a1 a2 a3 a4 a5 a6 a7 a8 a9 a10 a11 a12 k
 unfold course_sheetOf.f
 repeat' first
   | (with_reducible exact course_CheckScale.mono _ _ _ _)
   | (with_reducible exact course_CheckSheet.mono _ _ _ _ _ _ _ _ _ _)
   | (with_reducible exact LeO.refl _)
   | (with_reducible exact LeO.none _)
   | (with_reducible refine LeO.ite ?_ ?_)
   | (with_reducible refine LeO.bind ?_ (fun _ => ?_))
   | exact course_CheckScale.mono _ _ _ _
   | exact course_CheckSheet.mono _ _ _ _ _ _ _ _ _ _
   | exact LeO.none _
   | refine LeO.ite ?_ ?_
   | refine LeO.bind ?_ (fun _ => ?_)
set_option maxHeartbeats 8000000 in
set_option maxRecDepth 100000 in
theorem course_sheetOf.calls (k : Nat) (a0_0 : Int) (a0_1 : Int) (A0_2 : Option Addr) (c0_2 : Nat) (l0_2 : List (S26)) (a1_0 : Int) (a1_1 : Int) (a1_2 : Int) (a1_3 : Int) (a1_4 : Int) (a1_5 : Int) (a1_6 : Int) (a1_7 : Int) (A1_8 : Option Addr) (c1_8 : Nat) (l1_8 : List (S71)) (a2 : Int) (r : Int) (w : World) (hr0_2 : Kd.C k26 w A0_2 l0_2.length l0_2) (hc0_2 : l0_2.length ≤ c0_2) (hr1_8 : Kd.C k71 w A1_8 l1_8.length l1_8) (hc1_8 : l1_8.length ≤ c1_8) (h : course_sheetOf.f k a0_0 a0_1 l0_2 a1_0 a1_1 a1_2 a1_3 a1_4 a1_5 a1_6 a1_7 l1_8 a2 = some r) :
  Calls Tryd.prog 133 #[.agg #[.int .i64 a0_0, .int .i64 a0_1, .slice A0_2 l0_2.length c0_2], .agg #[.int .i64 a1_0, .int .i64 a1_1, .int .i64 a1_2, .int .i64 a1_3, .int .i64 a1_4, .int .i64 a1_5, .int .i64 a1_6, .int .i64 a1_7, .slice A1_8 l1_8.length c1_8], .int .i64 a2] w fun e w' => e = .returned (.int .i64 r) ∧ Below w.heap.size w w' := by
 have hu24 := Tryd.underlying24
 have hu47 := Tryd.underlying47
 have HR0_2 := Aside0.mk (hr0_2)
 have HC0_2 := Aside0.mk (hc0_2)
 clear hr0_2 hc0_2
 have HR1_8 := Aside0.mk (hr1_8)
 have HC1_8 := Aside0.mk (hc1_8)
 clear hr1_8 hc1_8
 have HB := Bw.mk (Below.refl w.heap.size w)
 have H : ((course_CheckScale.f k a0_0 a0_1 l0_2).bind fun t221 => (if t221 = 0 then ((course_CheckSheet.f k a1_0 a1_1 a1_2 a1_3 a1_4 a1_5 a1_6 a1_7 l1_8).bind fun t222 => (if t222 = 0 then (if a0_0 = a1_4 then ((course_day.f a2).bind fun t223 => (if t223 = true then (some 0) else (some 1))) else (some 1)) else (some t222))) else (some t221))) = some r := h
 clear h
 replace H := Option.bind_eq_some_iff.mp H
 obtain ⟨t221, A40, H⟩ := H
 have A4 := Aside0.mk (A40)
 clear A40
 by_cases c5 : t221 = 0
 ·
  rw [if_pos c5] at H
  have c5b0 : (t221 == 0) = true := beq_iff_eq.mpr c5
  have c5b1 : (t221 != 0) = false := bne_eq_false_iff_eq.mpr c5
  clear c5
  replace H := Option.bind_eq_some_iff.mp H
  obtain ⟨t222, A60, H⟩ := H
  have A6 := Aside0.mk (A60)
  clear A60
  by_cases c7 : t222 = 0
  ·
   rw [if_pos c7] at H
   have c7b0 : (t222 == 0) = true := beq_iff_eq.mpr c7
   have c7b1 : (t222 != 0) = false := bne_eq_false_iff_eq.mpr c7
   clear c7
   by_cases c8 : a0_0 = a1_4
   ·
    rw [if_pos c8] at H
    have c8b0 : (a0_0 == a1_4) = true := beq_iff_eq.mpr c8
    have c8b1 : (a0_0 != a1_4) = false := bne_eq_false_iff_eq.mpr c8
    clear c8
    replace H := Option.bind_eq_some_iff.mp H
    obtain ⟨t223, A90, H⟩ := H
    have A9 := Aside0.mk (A90)
    clear A90
    by_cases c10 : t223 = true
    ·
     subst c10
     rw [if_pos rfl] at H
     obtain rfl := Option.some.inj H
     go_enter Tryd.func133, Tryd.ntmps133
     go_wp2_with (first | ((with_reducible refine gate_dst (N := 3) rfl ?_); refine bxE 3 24 #[.int .i64 a0_0, .int .i64 a0_1, .slice A0_2 l0_2.length c0_2] (by rfl) (by rfl) (by first | (go_simp; done) | (go_simp; rfl)) ?_; intro gb219 hg w11 hbox hb; have BK219 := Bk.mk (hbox); have GE219 := eB w hg; replace HB := bS w hb; clear hb hbox hg) | ((with_reducible refine gate_dst (N := 4) rfl ?_); refine bxE 4 47 #[.int .i64 a1_0, .int .i64 a1_1, .int .i64 a1_2, .int .i64 a1_3, .int .i64 a1_4, .int .i64 a1_5, .int .i64 a1_6, .int .i64 a1_7, .slice A1_8 l1_8.length c1_8] (by rfl) (by rfl) (by first | (go_simp; done) | (go_simp; rfl)) ?_; intro gb220 hg w12 hbox hb; have BK220 := Bk.mk (hbox); have GE220 := eB w hg; replace BK219 := kB gb219 hb; replace HB := bS w hb; clear hb hbox hg; obtain ⟨hcz14_0, hcz14_1, hcz14_2, hfz14_0, hfz14_1, hfz14_2⟩ := cz3 BK219) | ((with_reducible refine gate_callee (f := 20) rfl ?_); refine goesLM (some 10) rfl rfl Tryd.func20 (by kernel_rfl) rfl #[.agg #[.int .i64 a0_0, .int .i64 a0_1, .slice A0_2 l0_2.length c0_2]] rfl (by rfl) ?_; (with_reducible refine (course_CheckScale.calls k a0_0 a0_1 _ _ l0_2 t221 _ ?side1 ?side2 A4.out).mono ?_); (case side1 => exact cP (Kd.C_below HR0_2.out HB.out)); (case side2 => exact HC0_2.out); rintro e w15 ⟨rfl, hb⟩; refine ⟨_, rfl, ?_⟩; replace BK219 := kB gb219 hb; replace BK220 := kB gb220 hb; replace HB := bS w hb; (try clear hb); obtain ⟨hcz16_0, hcz16_1, hcz16_2, hcz16_3, hcz16_4, hcz16_5, hcz16_6, hcz16_7, hcz16_8, hfz16_0, hfz16_1, hfz16_2, hfz16_3, hfz16_4, hfz16_5, hfz16_6, hfz16_7, hfz16_8⟩ := cz9 BK220) | ((with_reducible refine gate_callee (f := 31) rfl ?_); refine goesLM (some 15) rfl rfl Tryd.func31 (by kernel_rfl) rfl #[.agg #[.int .i64 a1_0, .int .i64 a1_1, .int .i64 a1_2, .int .i64 a1_3, .int .i64 a1_4, .int .i64 a1_5, .int .i64 a1_6, .int .i64 a1_7, .slice A1_8 l1_8.length c1_8]] rfl (by rfl) ?_; (with_reducible refine (course_CheckSheet.calls k a1_0 a1_1 a1_2 a1_3 a1_4 a1_5 a1_6 a1_7 _ _ l1_8 t222 _ ?side1 ?side2 A6.out).mono ?_); (case side1 => exact cP (Kd.C_below HR1_8.out HB.out)); (case side2 => exact HC1_8.out); rintro e w17 ⟨rfl, hb⟩; refine ⟨_, rfl, ?_⟩; replace BK219 := kB gb219 hb; replace BK220 := kB gb220 hb; replace HB := bS w hb; (try clear hb); obtain ⟨hcz18_0, hcz18_1, hcz18_2, hfz18_0, hfz18_1, hfz18_2⟩ := cz3 BK219; obtain ⟨hcz19_0, hcz19_1, hcz19_2, hcz19_3, hcz19_4, hcz19_5, hcz19_6, hcz19_7, hcz19_8, hfz19_0, hfz19_1, hfz19_2, hfz19_3, hfz19_4, hfz19_5, hfz19_6, hfz19_7, hfz19_8⟩ := cz9 BK220) | (go_at_call 74; (with_reducible refine (course_day.calls a2 true _ A9.out).mono ?_); rintro e w' ⟨rfl, ⟨nd, rfl⟩⟩))
     go_ret
     exact ⟨by first | rfl | (simp [errW_none, errW_some] <;> rfl) | (simp [*, errW_none, errW_some] <;> rfl), bw w⟩
    ·
     replace c10 := Bool.eq_false_iff.mpr c10
     subst c10
     rw [if_neg (show ¬ (false = true) by decide)] at H
     obtain rfl := Option.some.inj H
     go_enter Tryd.func133, Tryd.ntmps133
     go_wp2_with (first | ((with_reducible refine gate_dst (N := 3) rfl ?_); refine bxE 3 24 #[.int .i64 a0_0, .int .i64 a0_1, .slice A0_2 l0_2.length c0_2] (by rfl) (by rfl) (by first | (go_simp; done) | (go_simp; rfl)) ?_; intro gb219 hg w20 hbox hb; have BK219 := Bk.mk (hbox); have GE219 := eB w hg; replace HB := bS w hb; clear hb hbox hg) | ((with_reducible refine gate_dst (N := 4) rfl ?_); refine bxE 4 47 #[.int .i64 a1_0, .int .i64 a1_1, .int .i64 a1_2, .int .i64 a1_3, .int .i64 a1_4, .int .i64 a1_5, .int .i64 a1_6, .int .i64 a1_7, .slice A1_8 l1_8.length c1_8] (by rfl) (by rfl) (by first | (go_simp; done) | (go_simp; rfl)) ?_; intro gb220 hg w21 hbox hb; have BK220 := Bk.mk (hbox); have GE220 := eB w hg; replace BK219 := kB gb219 hb; replace HB := bS w hb; clear hb hbox hg; obtain ⟨hcz23_0, hcz23_1, hcz23_2, hfz23_0, hfz23_1, hfz23_2⟩ := cz3 BK219) | ((with_reducible refine gate_callee (f := 20) rfl ?_); refine goesLM (some 10) rfl rfl Tryd.func20 (by kernel_rfl) rfl #[.agg #[.int .i64 a0_0, .int .i64 a0_1, .slice A0_2 l0_2.length c0_2]] rfl (by rfl) ?_; (with_reducible refine (course_CheckScale.calls k a0_0 a0_1 _ _ l0_2 t221 _ ?side1 ?side2 A4.out).mono ?_); (case side1 => exact cP (Kd.C_below HR0_2.out HB.out)); (case side2 => exact HC0_2.out); rintro e w24 ⟨rfl, hb⟩; refine ⟨_, rfl, ?_⟩; replace BK219 := kB gb219 hb; replace BK220 := kB gb220 hb; replace HB := bS w hb; (try clear hb); obtain ⟨hcz25_0, hcz25_1, hcz25_2, hcz25_3, hcz25_4, hcz25_5, hcz25_6, hcz25_7, hcz25_8, hfz25_0, hfz25_1, hfz25_2, hfz25_3, hfz25_4, hfz25_5, hfz25_6, hfz25_7, hfz25_8⟩ := cz9 BK220) | ((with_reducible refine gate_callee (f := 31) rfl ?_); refine goesLM (some 15) rfl rfl Tryd.func31 (by kernel_rfl) rfl #[.agg #[.int .i64 a1_0, .int .i64 a1_1, .int .i64 a1_2, .int .i64 a1_3, .int .i64 a1_4, .int .i64 a1_5, .int .i64 a1_6, .int .i64 a1_7, .slice A1_8 l1_8.length c1_8]] rfl (by rfl) ?_; (with_reducible refine (course_CheckSheet.calls k a1_0 a1_1 a1_2 a1_3 a1_4 a1_5 a1_6 a1_7 _ _ l1_8 t222 _ ?side1 ?side2 A6.out).mono ?_); (case side1 => exact cP (Kd.C_below HR1_8.out HB.out)); (case side2 => exact HC1_8.out); rintro e w26 ⟨rfl, hb⟩; refine ⟨_, rfl, ?_⟩; replace BK219 := kB gb219 hb; replace BK220 := kB gb220 hb; replace HB := bS w hb; (try clear hb); obtain ⟨hcz27_0, hcz27_1, hcz27_2, hfz27_0, hfz27_1, hfz27_2⟩ := cz3 BK219; obtain ⟨hcz28_0, hcz28_1, hcz28_2, hcz28_3, hcz28_4, hcz28_5, hcz28_6, hcz28_7, hcz28_8, hfz28_0, hfz28_1, hfz28_2, hfz28_3, hfz28_4, hfz28_5, hfz28_6, hfz28_7, hfz28_8⟩ := cz9 BK220) | (go_at_call 74; (with_reducible refine (course_day.calls a2 false _ A9.out).mono ?_); rintro e w' ⟨rfl, ⟨nd, rfl⟩⟩))
     go_ret
     exact ⟨by first | rfl | (simp [errW_none, errW_some] <;> rfl) | (simp [*, errW_none, errW_some] <;> rfl), bw w⟩
   ·
    rw [if_neg c8] at H
    have c8b0 : (a0_0 == a1_4) = false := beq_eq_false_iff_ne.mpr c8
    have c8b1 : (a0_0 != a1_4) = true := bne_iff_ne.mpr c8
    obtain rfl := Option.some.inj H
    go_enter Tryd.func133, Tryd.ntmps133
    go_wp2_with (first | ((with_reducible refine gate_dst (N := 3) rfl ?_); refine bxE 3 24 #[.int .i64 a0_0, .int .i64 a0_1, .slice A0_2 l0_2.length c0_2] (by rfl) (by rfl) (by first | (go_simp; done) | (go_simp; rfl)) ?_; intro gb219 hg w29 hbox hb; have BK219 := Bk.mk (hbox); have GE219 := eB w hg; replace HB := bS w hb; clear hb hbox hg) | ((with_reducible refine gate_dst (N := 4) rfl ?_); refine bxE 4 47 #[.int .i64 a1_0, .int .i64 a1_1, .int .i64 a1_2, .int .i64 a1_3, .int .i64 a1_4, .int .i64 a1_5, .int .i64 a1_6, .int .i64 a1_7, .slice A1_8 l1_8.length c1_8] (by rfl) (by rfl) (by first | (go_simp; done) | (go_simp; rfl)) ?_; intro gb220 hg w30 hbox hb; have BK220 := Bk.mk (hbox); have GE220 := eB w hg; replace BK219 := kB gb219 hb; replace HB := bS w hb; clear hb hbox hg; obtain ⟨hcz32_0, hcz32_1, hcz32_2, hfz32_0, hfz32_1, hfz32_2⟩ := cz3 BK219) | ((with_reducible refine gate_callee (f := 20) rfl ?_); refine goesLM (some 10) rfl rfl Tryd.func20 (by kernel_rfl) rfl #[.agg #[.int .i64 a0_0, .int .i64 a0_1, .slice A0_2 l0_2.length c0_2]] rfl (by rfl) ?_; (with_reducible refine (course_CheckScale.calls k a0_0 a0_1 _ _ l0_2 t221 _ ?side1 ?side2 A4.out).mono ?_); (case side1 => exact cP (Kd.C_below HR0_2.out HB.out)); (case side2 => exact HC0_2.out); rintro e w33 ⟨rfl, hb⟩; refine ⟨_, rfl, ?_⟩; replace BK219 := kB gb219 hb; replace BK220 := kB gb220 hb; replace HB := bS w hb; (try clear hb); obtain ⟨hcz34_0, hcz34_1, hcz34_2, hcz34_3, hcz34_4, hcz34_5, hcz34_6, hcz34_7, hcz34_8, hfz34_0, hfz34_1, hfz34_2, hfz34_3, hfz34_4, hfz34_5, hfz34_6, hfz34_7, hfz34_8⟩ := cz9 BK220) | ((with_reducible refine gate_callee (f := 31) rfl ?_); refine goesLM (some 15) rfl rfl Tryd.func31 (by kernel_rfl) rfl #[.agg #[.int .i64 a1_0, .int .i64 a1_1, .int .i64 a1_2, .int .i64 a1_3, .int .i64 a1_4, .int .i64 a1_5, .int .i64 a1_6, .int .i64 a1_7, .slice A1_8 l1_8.length c1_8]] rfl (by rfl) ?_; (with_reducible refine (course_CheckSheet.calls k a1_0 a1_1 a1_2 a1_3 a1_4 a1_5 a1_6 a1_7 _ _ l1_8 t222 _ ?side1 ?side2 A6.out).mono ?_); (case side1 => exact cP (Kd.C_below HR1_8.out HB.out)); (case side2 => exact HC1_8.out); rintro e w35 ⟨rfl, hb⟩; refine ⟨_, rfl, ?_⟩; replace BK219 := kB gb219 hb; replace BK220 := kB gb220 hb; replace HB := bS w hb; (try clear hb); obtain ⟨hcz36_0, hcz36_1, hcz36_2, hfz36_0, hfz36_1, hfz36_2⟩ := cz3 BK219; obtain ⟨hcz37_0, hcz37_1, hcz37_2, hcz37_3, hcz37_4, hcz37_5, hcz37_6, hcz37_7, hcz37_8, hfz37_0, hfz37_1, hfz37_2, hfz37_3, hfz37_4, hfz37_5, hfz37_6, hfz37_7, hfz37_8⟩ := cz9 BK220))
    go_ret
    exact ⟨by first | rfl | (simp [errW_none, errW_some] <;> rfl) | (simp [*, errW_none, errW_some] <;> rfl), bw w⟩
  ·
   rw [if_neg c7] at H
   have c7b0 : (t222 == 0) = false := beq_eq_false_iff_ne.mpr c7
   have c7b1 : (t222 != 0) = true := bne_iff_ne.mpr c7
   obtain rfl := Option.some.inj H
   go_enter Tryd.func133, Tryd.ntmps133
   go_wp2_with (first | ((with_reducible refine gate_dst (N := 3) rfl ?_); refine bxE 3 24 #[.int .i64 a0_0, .int .i64 a0_1, .slice A0_2 l0_2.length c0_2] (by rfl) (by rfl) (by first | (go_simp; done) | (go_simp; rfl)) ?_; intro gb219 hg w38 hbox hb; have BK219 := Bk.mk (hbox); have GE219 := eB w hg; replace HB := bS w hb; clear hb hbox hg) | ((with_reducible refine gate_dst (N := 4) rfl ?_); refine bxE 4 47 #[.int .i64 a1_0, .int .i64 a1_1, .int .i64 a1_2, .int .i64 a1_3, .int .i64 a1_4, .int .i64 a1_5, .int .i64 a1_6, .int .i64 a1_7, .slice A1_8 l1_8.length c1_8] (by rfl) (by rfl) (by first | (go_simp; done) | (go_simp; rfl)) ?_; intro gb220 hg w39 hbox hb; have BK220 := Bk.mk (hbox); have GE220 := eB w hg; replace BK219 := kB gb219 hb; replace HB := bS w hb; clear hb hbox hg; obtain ⟨hcz41_0, hcz41_1, hcz41_2, hfz41_0, hfz41_1, hfz41_2⟩ := cz3 BK219) | ((with_reducible refine gate_callee (f := 20) rfl ?_); refine goesLM (some 10) rfl rfl Tryd.func20 (by kernel_rfl) rfl #[.agg #[.int .i64 a0_0, .int .i64 a0_1, .slice A0_2 l0_2.length c0_2]] rfl (by rfl) ?_; (with_reducible refine (course_CheckScale.calls k a0_0 a0_1 _ _ l0_2 t221 _ ?side1 ?side2 A4.out).mono ?_); (case side1 => exact cP (Kd.C_below HR0_2.out HB.out)); (case side2 => exact HC0_2.out); rintro e w42 ⟨rfl, hb⟩; refine ⟨_, rfl, ?_⟩; replace BK219 := kB gb219 hb; replace BK220 := kB gb220 hb; replace HB := bS w hb; (try clear hb); obtain ⟨hcz43_0, hcz43_1, hcz43_2, hcz43_3, hcz43_4, hcz43_5, hcz43_6, hcz43_7, hcz43_8, hfz43_0, hfz43_1, hfz43_2, hfz43_3, hfz43_4, hfz43_5, hfz43_6, hfz43_7, hfz43_8⟩ := cz9 BK220) | ((with_reducible refine gate_callee (f := 31) rfl ?_); refine goesLM (some 15) rfl rfl Tryd.func31 (by kernel_rfl) rfl #[.agg #[.int .i64 a1_0, .int .i64 a1_1, .int .i64 a1_2, .int .i64 a1_3, .int .i64 a1_4, .int .i64 a1_5, .int .i64 a1_6, .int .i64 a1_7, .slice A1_8 l1_8.length c1_8]] rfl (by rfl) ?_; (with_reducible refine (course_CheckSheet.calls k a1_0 a1_1 a1_2 a1_3 a1_4 a1_5 a1_6 a1_7 _ _ l1_8 t222 _ ?side1 ?side2 A6.out).mono ?_); (case side1 => exact cP (Kd.C_below HR1_8.out HB.out)); (case side2 => exact HC1_8.out); rintro e w44 ⟨rfl, hb⟩; refine ⟨_, rfl, ?_⟩; replace BK219 := kB gb219 hb; replace BK220 := kB gb220 hb; replace HB := bS w hb; (try clear hb)))
   go_ret
   exact ⟨by first | rfl | (simp [errW_none, errW_some] <;> rfl) | (simp [*, errW_none, errW_some] <;> rfl), bw w⟩
 ·
  rw [if_neg c5] at H
  have c5b0 : (t221 == 0) = false := beq_eq_false_iff_ne.mpr c5
  have c5b1 : (t221 != 0) = true := bne_iff_ne.mpr c5
  obtain rfl := Option.some.inj H
  go_enter Tryd.func133, Tryd.ntmps133
  go_wp2_with (first | ((with_reducible refine gate_dst (N := 3) rfl ?_); refine bxE 3 24 #[.int .i64 a0_0, .int .i64 a0_1, .slice A0_2 l0_2.length c0_2] (by rfl) (by rfl) (by first | (go_simp; done) | (go_simp; rfl)) ?_; intro gb219 hg w45 hbox hb; have BK219 := Bk.mk (hbox); have GE219 := eB w hg; replace HB := bS w hb; clear hb hbox hg) | ((with_reducible refine gate_dst (N := 4) rfl ?_); refine bxE 4 47 #[.int .i64 a1_0, .int .i64 a1_1, .int .i64 a1_2, .int .i64 a1_3, .int .i64 a1_4, .int .i64 a1_5, .int .i64 a1_6, .int .i64 a1_7, .slice A1_8 l1_8.length c1_8] (by rfl) (by rfl) (by first | (go_simp; done) | (go_simp; rfl)) ?_; intro gb220 hg w46 hbox hb; have BK220 := Bk.mk (hbox); have GE220 := eB w hg; replace BK219 := kB gb219 hb; replace HB := bS w hb; clear hb hbox hg; obtain ⟨hcz48_0, hcz48_1, hcz48_2, hfz48_0, hfz48_1, hfz48_2⟩ := cz3 BK219) | ((with_reducible refine gate_callee (f := 20) rfl ?_); refine goesLM (some 10) rfl rfl Tryd.func20 (by kernel_rfl) rfl #[.agg #[.int .i64 a0_0, .int .i64 a0_1, .slice A0_2 l0_2.length c0_2]] rfl (by rfl) ?_; (with_reducible refine (course_CheckScale.calls k a0_0 a0_1 _ _ l0_2 t221 _ ?side1 ?side2 A4.out).mono ?_); (case side1 => exact cP (Kd.C_below HR0_2.out HB.out)); (case side2 => exact HC0_2.out); rintro e w49 ⟨rfl, hb⟩; refine ⟨_, rfl, ?_⟩; replace BK219 := kB gb219 hb; replace BK220 := kB gb220 hb; replace HB := bS w hb; (try clear hb)))
  go_ret
  exact ⟨by first | rfl | (simp [errW_none, errW_some] <;> rfl) | (simp [*, errW_none, errW_some] <;> rfl), bw w⟩
def course_stakeOf.f (k : Nat) (a0_0 : Int) (a0_1 : Int) (l0_2 : List (S26)) (a1_0 : Int) (a1_1 : Int) (a1_2 : Int) (a1_3 : Int) (a1_4 : Int) (a1_5 : Int) (a1_6 : Int) (a1_7 : Int) (l1_8 : List (S71)) (a2 : Int) (a3 : Int) : Option (Int) := (course_sheetOf.f k a0_0 a0_1 l0_2 a1_0 a1_1 a1_2 a1_3 a1_4 a1_5 a1_6 a1_7 l1_8 a3).bind fun t226 => (if t226 = 0 then (if a2 < 0 then (some 1) else (if a2 ≥ (l1_8.length : Int) then (some 1) else (some 0))) else (some t226))
theorem course_stakeOf.mono : ∀ a0 a1 a2 a3 a4 a5 a6 a7 a8 a9 a10 a11 a12 a13 k, LeO (course_stakeOf.f k a0 a1 a2 a3 a4 a5 a6 a7 a8 a9 a10 a11 a12 a13) (course_stakeOf.f (k + 1) a0 a1 a2 a3 a4 a5 a6 a7 a8 a9 a10 a11 a12 a13) := by
 intro a0 a1 a2 a3 a4 a5 a6 a7 a8 a9 a10 a11 a12 a13 k
 unfold course_stakeOf.f
 repeat' first
   | (with_reducible exact course_sheetOf.mono _ _ _ _ _ _ _ _ _ _ _ _ _ _)
   | (with_reducible exact LeO.refl _)
   | (with_reducible exact LeO.none _)
   | (with_reducible refine LeO.ite ?_ ?_)
   | (with_reducible refine LeO.bind ?_ (fun _ => ?_))
   | exact course_sheetOf.mono _ _ _ _ _ _ _ _ _ _ _ _ _ _
   | exact LeO.none _
   | refine LeO.ite ?_ ?_
   | refine LeO.bind ?_ (fun _ => ?_)
set_option maxHeartbeats 8000000 in
set_option maxRecDepth 100000 in
theorem course_stakeOf.calls (k : Nat) (a0_0 : Int) (a0_1 : Int) (A0_2 : Option Addr) (c0_2 : Nat) (l0_2 : List (S26)) (a1_0 : Int) (a1_1 : Int) (a1_2 : Int) (a1_3 : Int) (a1_4 : Int) (a1_5 : Int) (a1_6 : Int) (a1_7 : Int) (A1_8 : Option Addr) (c1_8 : Nat) (l1_8 : List (S71)) (a2 : Int) (a3 : Int) (r : Int) (w : World) (hr0_2 : Kd.C k26 w A0_2 l0_2.length l0_2) (hc0_2 : l0_2.length ≤ c0_2) (hr1_8 : Kd.C k71 w A1_8 l1_8.length l1_8) (hc1_8 : l1_8.length ≤ c1_8) (h : course_stakeOf.f k a0_0 a0_1 l0_2 a1_0 a1_1 a1_2 a1_3 a1_4 a1_5 a1_6 a1_7 l1_8 a2 a3 = some r) :
  Calls Tryd.prog 104 #[.agg #[.int .i64 a0_0, .int .i64 a0_1, .slice A0_2 l0_2.length c0_2], .agg #[.int .i64 a1_0, .int .i64 a1_1, .int .i64 a1_2, .int .i64 a1_3, .int .i64 a1_4, .int .i64 a1_5, .int .i64 a1_6, .int .i64 a1_7, .slice A1_8 l1_8.length c1_8], .int .i64 a2, .int .i64 a3] w fun e w' => e = .returned (.int .i64 r) ∧ Below w.heap.size w w' := by
 have hu24 := Tryd.underlying24
 have hu47 := Tryd.underlying47
 have HR0_2 := Aside0.mk (hr0_2)
 have HC0_2 := Aside0.mk (hc0_2)
 clear hr0_2 hc0_2
 have HR1_8 := Aside0.mk (hr1_8)
 have HC1_8 := Aside0.mk (hc1_8)
 clear hr1_8 hc1_8
 have HB := Bw.mk (Below.refl w.heap.size w)
 have H : ((course_sheetOf.f k a0_0 a0_1 l0_2 a1_0 a1_1 a1_2 a1_3 a1_4 a1_5 a1_6 a1_7 l1_8 a3).bind fun t226 => (if t226 = 0 then (if a2 < 0 then (some 1) else (if a2 ≥ (l1_8.length : Int) then (some 1) else (some 0))) else (some t226))) = some r := h
 clear h
 replace H := Option.bind_eq_some_iff.mp H
 obtain ⟨t226, A50, H⟩ := H
 have A5 := Aside0.mk (A50)
 clear A50
 by_cases c6 : t226 = 0
 ·
  rw [if_pos c6] at H
  have c6b0 : (t226 == 0) = true := beq_iff_eq.mpr c6
  have c6b1 : (t226 != 0) = false := bne_eq_false_iff_eq.mpr c6
  clear c6
  by_cases c7 : a2 < 0
  ·
   rw [if_pos c7] at H
   have c7b0 : decide (a2 < 0) = true := decide_eq_true c7
   clear c7
   obtain rfl := Option.some.inj H
   go_enter Tryd.func104, Tryd.ntmps104
   go_wp2_with (first | ((with_reducible refine gate_dst (N := 4) rfl ?_); (try (refine gate_guard (by rfl) ?_; dsimp only)); refine bxE 4 24 #[.int .i64 a0_0, .int .i64 a0_1, .slice A0_2 l0_2.length c0_2] (by rfl) (by rfl) (by first | (go_simp; done) | (go_simp; rfl)) ?_; intro gb224 hg w8 hbox hb; have BK224 := Bk.mk (hbox); have GE224 := eB w hg; replace HB := bS w hb; clear hb hbox hg) | ((with_reducible refine gate_dst (N := 5) rfl ?_); (try (refine gate_guard (by rfl) ?_; dsimp only)); refine bxE 5 47 #[.int .i64 a1_0, .int .i64 a1_1, .int .i64 a1_2, .int .i64 a1_3, .int .i64 a1_4, .int .i64 a1_5, .int .i64 a1_6, .int .i64 a1_7, .slice A1_8 l1_8.length c1_8] (by rfl) (by rfl) (by first | (go_simp; done) | (go_simp; rfl)) ?_; intro gb225 hg w9 hbox hb; have BK225 := Bk.mk (hbox); have GE225 := eB w hg; replace BK224 := kB gb224 hb; replace HB := bS w hb; clear hb hbox hg; obtain ⟨hcz11_0, hcz11_1, hcz11_2, hfz11_0, hfz11_1, hfz11_2⟩ := cz3 BK224; obtain ⟨hcz12_0, hcz12_1, hcz12_2, hcz12_3, hcz12_4, hcz12_5, hcz12_6, hcz12_7, hcz12_8, hfz12_0, hfz12_1, hfz12_2, hfz12_3, hfz12_4, hfz12_5, hfz12_6, hfz12_7, hfz12_8⟩ := cz9 BK225) | ((with_reducible refine gate_callee (f := 133) rfl ?_); refine goesLM (some 13) rfl rfl Tryd.func133 (by kernel_rfl) rfl #[.agg #[.int .i64 a0_0, .int .i64 a0_1, .slice A0_2 l0_2.length c0_2], .agg #[.int .i64 a1_0, .int .i64 a1_1, .int .i64 a1_2, .int .i64 a1_3, .int .i64 a1_4, .int .i64 a1_5, .int .i64 a1_6, .int .i64 a1_7, .slice A1_8 l1_8.length c1_8], .int .i64 a3] rfl (by rfl) ?_; (with_reducible refine (course_sheetOf.calls k a0_0 a0_1 _ _ l0_2 a1_0 a1_1 a1_2 a1_3 a1_4 a1_5 a1_6 a1_7 _ _ l1_8 a3 t226 _ ?side1 ?side2 ?side3 ?side4 A5.out).mono ?_); (case side1 => exact cP (Kd.C_below HR0_2.out HB.out)); (case side2 => exact HC0_2.out); (case side3 => exact cP (Kd.C_below HR1_8.out HB.out)); (case side4 => exact HC1_8.out); rintro e w13 ⟨rfl, hb⟩; refine ⟨_, rfl, ?_⟩; replace BK224 := kB gb224 hb; replace BK225 := kB gb225 hb; replace HB := bS w hb; (try clear hb)))
   go_ret
   exact ⟨by first | rfl | (simp [errW_none, errW_some] <;> rfl) | (simp [*, errW_none, errW_some] <;> rfl), bw w⟩
  ·
   rw [if_neg c7] at H
   have c7b0 : decide (a2 < 0) = false := decide_eq_false c7
   clear c7
   by_cases c14 : a2 ≥ (l1_8.length : Int)
   ·
    rw [if_pos c14] at H
    have c14b0 : decide ((l1_8.length : Int) ≤ a2) = true := decide_eq_true c14
    clear c14
    obtain rfl := Option.some.inj H
    go_enter Tryd.func104, Tryd.ntmps104
    go_wp2_with (first | ((with_reducible refine gate_dst (N := 4) rfl ?_); (try (refine gate_guard (by rfl) ?_; dsimp only)); refine bxE 4 24 #[.int .i64 a0_0, .int .i64 a0_1, .slice A0_2 l0_2.length c0_2] (by rfl) (by rfl) (by first | (go_simp; done) | (go_simp; rfl)) ?_; intro gb224 hg w15 hbox hb; have BK224 := Bk.mk (hbox); have GE224 := eB w hg; replace HB := bS w hb; clear hb hbox hg) | ((with_reducible refine gate_dst (N := 5) rfl ?_); (try (refine gate_guard (by rfl) ?_; dsimp only)); refine bxE 5 47 #[.int .i64 a1_0, .int .i64 a1_1, .int .i64 a1_2, .int .i64 a1_3, .int .i64 a1_4, .int .i64 a1_5, .int .i64 a1_6, .int .i64 a1_7, .slice A1_8 l1_8.length c1_8] (by rfl) (by rfl) (by first | (go_simp; done) | (go_simp; rfl)) ?_; intro gb225 hg w16 hbox hb; have BK225 := Bk.mk (hbox); have GE225 := eB w hg; replace BK224 := kB gb224 hb; replace HB := bS w hb; clear hb hbox hg; obtain ⟨hcz18_0, hcz18_1, hcz18_2, hfz18_0, hfz18_1, hfz18_2⟩ := cz3 BK224; obtain ⟨hcz19_0, hcz19_1, hcz19_2, hcz19_3, hcz19_4, hcz19_5, hcz19_6, hcz19_7, hcz19_8, hfz19_0, hfz19_1, hfz19_2, hfz19_3, hfz19_4, hfz19_5, hfz19_6, hfz19_7, hfz19_8⟩ := cz9 BK225) | ((with_reducible refine gate_callee (f := 133) rfl ?_); refine goesLM (some 13) rfl rfl Tryd.func133 (by kernel_rfl) rfl #[.agg #[.int .i64 a0_0, .int .i64 a0_1, .slice A0_2 l0_2.length c0_2], .agg #[.int .i64 a1_0, .int .i64 a1_1, .int .i64 a1_2, .int .i64 a1_3, .int .i64 a1_4, .int .i64 a1_5, .int .i64 a1_6, .int .i64 a1_7, .slice A1_8 l1_8.length c1_8], .int .i64 a3] rfl (by rfl) ?_; (with_reducible refine (course_sheetOf.calls k a0_0 a0_1 _ _ l0_2 a1_0 a1_1 a1_2 a1_3 a1_4 a1_5 a1_6 a1_7 _ _ l1_8 a3 t226 _ ?side1 ?side2 ?side3 ?side4 A5.out).mono ?_); (case side1 => exact cP (Kd.C_below HR0_2.out HB.out)); (case side2 => exact HC0_2.out); (case side3 => exact cP (Kd.C_below HR1_8.out HB.out)); (case side4 => exact HC1_8.out); rintro e w20 ⟨rfl, hb⟩; refine ⟨_, rfl, ?_⟩; replace BK224 := kB gb224 hb; replace BK225 := kB gb225 hb; replace HB := bS w hb; (try clear hb); obtain ⟨hcz21_0, hcz21_1, hcz21_2, hcz21_3, hcz21_4, hcz21_5, hcz21_6, hcz21_7, hcz21_8, hfz21_0, hfz21_1, hfz21_2, hfz21_3, hfz21_4, hfz21_5, hfz21_6, hfz21_7, hfz21_8⟩ := cz9 BK225))
    go_ret
    exact ⟨by first | rfl | (simp [errW_none, errW_some] <;> rfl) | (simp [*, errW_none, errW_some] <;> rfl), bw w⟩
   ·
    rw [if_neg c14] at H
    have c14b0 : decide ((l1_8.length : Int) ≤ a2) = false := decide_eq_false c14
    clear c14
    obtain rfl := Option.some.inj H
    go_enter Tryd.func104, Tryd.ntmps104
    go_wp2_with (first | ((with_reducible refine gate_dst (N := 4) rfl ?_); (try (refine gate_guard (by rfl) ?_; dsimp only)); refine bxE 4 24 #[.int .i64 a0_0, .int .i64 a0_1, .slice A0_2 l0_2.length c0_2] (by rfl) (by rfl) (by first | (go_simp; done) | (go_simp; rfl)) ?_; intro gb224 hg w22 hbox hb; have BK224 := Bk.mk (hbox); have GE224 := eB w hg; replace HB := bS w hb; clear hb hbox hg) | ((with_reducible refine gate_dst (N := 5) rfl ?_); (try (refine gate_guard (by rfl) ?_; dsimp only)); refine bxE 5 47 #[.int .i64 a1_0, .int .i64 a1_1, .int .i64 a1_2, .int .i64 a1_3, .int .i64 a1_4, .int .i64 a1_5, .int .i64 a1_6, .int .i64 a1_7, .slice A1_8 l1_8.length c1_8] (by rfl) (by rfl) (by first | (go_simp; done) | (go_simp; rfl)) ?_; intro gb225 hg w23 hbox hb; have BK225 := Bk.mk (hbox); have GE225 := eB w hg; replace BK224 := kB gb224 hb; replace HB := bS w hb; clear hb hbox hg; obtain ⟨hcz25_0, hcz25_1, hcz25_2, hfz25_0, hfz25_1, hfz25_2⟩ := cz3 BK224; obtain ⟨hcz26_0, hcz26_1, hcz26_2, hcz26_3, hcz26_4, hcz26_5, hcz26_6, hcz26_7, hcz26_8, hfz26_0, hfz26_1, hfz26_2, hfz26_3, hfz26_4, hfz26_5, hfz26_6, hfz26_7, hfz26_8⟩ := cz9 BK225) | ((with_reducible refine gate_callee (f := 133) rfl ?_); refine goesLM (some 13) rfl rfl Tryd.func133 (by kernel_rfl) rfl #[.agg #[.int .i64 a0_0, .int .i64 a0_1, .slice A0_2 l0_2.length c0_2], .agg #[.int .i64 a1_0, .int .i64 a1_1, .int .i64 a1_2, .int .i64 a1_3, .int .i64 a1_4, .int .i64 a1_5, .int .i64 a1_6, .int .i64 a1_7, .slice A1_8 l1_8.length c1_8], .int .i64 a3] rfl (by rfl) ?_; (with_reducible refine (course_sheetOf.calls k a0_0 a0_1 _ _ l0_2 a1_0 a1_1 a1_2 a1_3 a1_4 a1_5 a1_6 a1_7 _ _ l1_8 a3 t226 _ ?side1 ?side2 ?side3 ?side4 A5.out).mono ?_); (case side1 => exact cP (Kd.C_below HR0_2.out HB.out)); (case side2 => exact HC0_2.out); (case side3 => exact cP (Kd.C_below HR1_8.out HB.out)); (case side4 => exact HC1_8.out); rintro e w27 ⟨rfl, hb⟩; refine ⟨_, rfl, ?_⟩; replace BK224 := kB gb224 hb; replace BK225 := kB gb225 hb; replace HB := bS w hb; (try clear hb); obtain ⟨hcz28_0, hcz28_1, hcz28_2, hcz28_3, hcz28_4, hcz28_5, hcz28_6, hcz28_7, hcz28_8, hfz28_0, hfz28_1, hfz28_2, hfz28_3, hfz28_4, hfz28_5, hfz28_6, hfz28_7, hfz28_8⟩ := cz9 BK225))
    go_ret
    exact ⟨by first | rfl | (simp [errW_none, errW_some] <;> rfl) | (simp [*, errW_none, errW_some] <;> rfl), bw w⟩
 ·
  rw [if_neg c6] at H
  have c6b0 : (t226 == 0) = false := beq_eq_false_iff_ne.mpr c6
  have c6b1 : (t226 != 0) = true := bne_iff_ne.mpr c6
  obtain rfl := Option.some.inj H
  go_enter Tryd.func104, Tryd.ntmps104
  go_wp2_with (first | ((with_reducible refine gate_dst (N := 4) rfl ?_); (try (refine gate_guard (by rfl) ?_; dsimp only)); refine bxE 4 24 #[.int .i64 a0_0, .int .i64 a0_1, .slice A0_2 l0_2.length c0_2] (by rfl) (by rfl) (by first | (go_simp; done) | (go_simp; rfl)) ?_; intro gb224 hg w29 hbox hb; have BK224 := Bk.mk (hbox); have GE224 := eB w hg; replace HB := bS w hb; clear hb hbox hg) | ((with_reducible refine gate_dst (N := 5) rfl ?_); (try (refine gate_guard (by rfl) ?_; dsimp only)); refine bxE 5 47 #[.int .i64 a1_0, .int .i64 a1_1, .int .i64 a1_2, .int .i64 a1_3, .int .i64 a1_4, .int .i64 a1_5, .int .i64 a1_6, .int .i64 a1_7, .slice A1_8 l1_8.length c1_8] (by rfl) (by rfl) (by first | (go_simp; done) | (go_simp; rfl)) ?_; intro gb225 hg w30 hbox hb; have BK225 := Bk.mk (hbox); have GE225 := eB w hg; replace BK224 := kB gb224 hb; replace HB := bS w hb; clear hb hbox hg; obtain ⟨hcz32_0, hcz32_1, hcz32_2, hfz32_0, hfz32_1, hfz32_2⟩ := cz3 BK224; obtain ⟨hcz33_0, hcz33_1, hcz33_2, hcz33_3, hcz33_4, hcz33_5, hcz33_6, hcz33_7, hcz33_8, hfz33_0, hfz33_1, hfz33_2, hfz33_3, hfz33_4, hfz33_5, hfz33_6, hfz33_7, hfz33_8⟩ := cz9 BK225) | ((with_reducible refine gate_callee (f := 133) rfl ?_); refine goesLM (some 13) rfl rfl Tryd.func133 (by kernel_rfl) rfl #[.agg #[.int .i64 a0_0, .int .i64 a0_1, .slice A0_2 l0_2.length c0_2], .agg #[.int .i64 a1_0, .int .i64 a1_1, .int .i64 a1_2, .int .i64 a1_3, .int .i64 a1_4, .int .i64 a1_5, .int .i64 a1_6, .int .i64 a1_7, .slice A1_8 l1_8.length c1_8], .int .i64 a3] rfl (by rfl) ?_; (with_reducible refine (course_sheetOf.calls k a0_0 a0_1 _ _ l0_2 a1_0 a1_1 a1_2 a1_3 a1_4 a1_5 a1_6 a1_7 _ _ l1_8 a3 t226 _ ?side1 ?side2 ?side3 ?side4 A5.out).mono ?_); (case side1 => exact cP (Kd.C_below HR0_2.out HB.out)); (case side2 => exact HC0_2.out); (case side3 => exact cP (Kd.C_below HR1_8.out HB.out)); (case side4 => exact HC1_8.out); rintro e w34 ⟨rfl, hb⟩; refine ⟨_, rfl, ?_⟩; replace BK224 := kB gb224 hb; replace BK225 := kB gb225 hb; replace HB := bS w hb; (try clear hb)))
  go_ret
  exact ⟨by first | rfl | (simp [errW_none, errW_some] <;> rfl) | (simp [*, errW_none, errW_some] <;> rfl), bw w⟩
def course_turns.l0 : Nat → List (S71) → Int → Int → Int → Int → Int → Int → Int → Int → Int → Int → List (S71) → Int → Int → Option (Int × Int × Int)
 | 0, _, _, _, _, _, _, _, _, _, _, _, _, _, _ => none
 | k + 1, x19, x20, x21, x229000, x229001, x229002, x229003, x229004, x229005, x229006, x229007, x229008, x233000, x233001 => if x21 < x20 then (if 0 ≤ x21 then (if x21 < (x19.length : Int) then (course_turns.l0 k x19 x20 (wrap64 (x21 + 1)) x229000 x229001 x229002 x229003 x229004 x229005 x229006 x229007 x229008 x233000 (mn x233001 (wrap64 (((rd_T71 x19 x21).f2) - x229006)))) else (none)) else (none)) else (if x233000 > x233001 then (some (0, 0, 13)) else (some (x233000, x233001, 0)))
def course_turns.f (k : Nat) (a0_0 : Int) (a0_1 : Int) (l0_2 : List (S26)) (a1_0 : Int) (a1_1 : Int) (a1_2 : Int) (a1_3 : Int) (a1_4 : Int) (a1_5 : Int) (a1_6 : Int) (a1_7 : Int) (l1_8 : List (S71)) (a2 : Int) : Option (Int × Int × Int) := (course_turn.f k a0_0 a0_1 l0_2 a1_7 a1_2 a2).bind fun bt230 => (course_turns.l0 k l1_8 (l1_8.length : Int) 0 a1_0 a1_1 a1_2 a1_3 a1_4 a1_5 a1_6 a1_7 l1_8 bt230.1 bt230.2)
theorem course_turns.mono_l : ∀ k, (∀ y0 y1 y2 y3 y4 y5 y6 y7 y8 y9 y10 y11 y12 y13, LeO (course_turns.l0 k y0 y1 y2 y3 y4 y5 y6 y7 y8 y9 y10 y11 y12 y13) (course_turns.l0 (k + 1) y0 y1 y2 y3 y4 y5 y6 y7 y8 y9 y10 y11 y12 y13))
 | 0 => fun _ _ _ _ _ _ _ _ _ _ _ _ _ _ r h => by simp [course_turns.l0] at h
 | k + 1 => by
  have ih0 := course_turns.mono_l k
  ·
   intro y0 y1 y2 y3 y4 y5 y6 y7 y8 y9 y10 y11 y12 y13
   unfold course_turns.l0
   repeat' first
   | (with_reducible exact ih0 _ _ _ _ _ _ _ _ _ _ _ _ _ _)
   | (with_reducible exact course_turn.mono _ _ _ _ _ _ _)
   | (with_reducible exact LeO.refl _)
   | (with_reducible exact LeO.none _)
   | (with_reducible refine LeO.ite ?_ ?_)
   | (with_reducible refine LeO.bind ?_ (fun _ => ?_))
   | exact ih0 _ _ _ _ _ _ _ _ _ _ _ _ _ _
   | exact course_turn.mono _ _ _ _ _ _ _
   | exact LeO.none _
   | refine LeO.ite ?_ ?_
   | refine LeO.bind ?_ (fun _ => ?_)
theorem course_turns.mono : ∀ a0 a1 a2 a3 a4 a5 a6 a7 a8 a9 a10 a11 a12 k, LeO (course_turns.f k a0 a1 a2 a3 a4 a5 a6 a7 a8 a9 a10 a11 a12) (course_turns.f (k + 1) a0 a1 a2 a3 a4 a5 a6 a7 a8 a9 a10 a11 a12) := by
 intro a0 a1 a2 a3 a4 a5 a6 a7 a8 a9 a10 a11 a12 k
 have ih0 := course_turns.mono_l k
 unfold course_turns.f
 repeat' first
   | (with_reducible exact ih0 _ _ _ _ _ _ _ _ _ _ _ _ _ _)
   | (with_reducible exact course_turn.mono _ _ _ _ _ _ _)
   | (with_reducible exact LeO.refl _)
   | (with_reducible exact LeO.none _)
   | (with_reducible refine LeO.ite ?_ ?_)
   | (with_reducible refine LeO.bind ?_ (fun _ => ?_))
   | exact ih0 _ _ _ _ _ _ _ _ _ _ _ _ _ _
   | exact course_turn.mono _ _ _ _ _ _ _
   | exact LeO.none _
   | refine LeO.ite ?_ ?_
   | refine LeO.bind ?_ (fun _ => ?_)
set_option maxHeartbeats 8000000 in
set_option maxRecDepth 100000 in
theorem course_turns.calls (k : Nat) (a0_0 : Int) (a0_1 : Int) (A0_2 : Option Addr) (c0_2 : Nat) (l0_2 : List (S26)) (a1_0 : Int) (a1_1 : Int) (a1_2 : Int) (a1_3 : Int) (a1_4 : Int) (a1_5 : Int) (a1_6 : Int) (a1_7 : Int) (A1_8 : Option Addr) (c1_8 : Nat) (l1_8 : List (S71)) (a2 : Int) (r1 : Int) (r2 : Int) (r3 : Int) (w : World) (hr0_2 : Kd.C k26 w A0_2 l0_2.length l0_2) (hc0_2 : l0_2.length ≤ c0_2) (hr1_8 : Kd.C k71 w A1_8 l1_8.length l1_8) (hc1_8 : l1_8.length ≤ c1_8) (h : course_turns.f k a0_0 a0_1 l0_2 a1_0 a1_1 a1_2 a1_3 a1_4 a1_5 a1_6 a1_7 l1_8 a2 = some (r1, r2, r3)) :
  Calls Tryd.prog 105 #[.agg #[.int .i64 a0_0, .int .i64 a0_1, .slice A0_2 l0_2.length c0_2], .agg #[.int .i64 a1_0, .int .i64 a1_1, .int .i64 a1_2, .int .i64 a1_3, .int .i64 a1_4, .int .i64 a1_5, .int .i64 a1_6, .int .i64 a1_7, .slice A1_8 l1_8.length c1_8], .int .i64 a2] w fun e w' => e = .returned (.tuple #[.agg #[.int .i64 r1, .int .i64 r2], .int .i64 r3]) ∧ Below w.heap.size w w' := by
 have hu24 := Tryd.underlying24
 have hu47 := Tryd.underlying47
 have hu103 := Tryd.underlying103
 have hu71 := Tryd.underlying71
 have HR0_2 := Aside0.mk (hr0_2)
 have HC0_2 := Aside0.mk (hc0_2)
 clear hr0_2 hc0_2
 have HR1_8 := Aside0.mk (hr1_8)
 have HC1_8 := Aside0.mk (hc1_8)
 clear hr1_8 hc1_8
 have HB := Bw.mk (Below.refl w.heap.size w)
 have H : ((course_turn.f k a0_0 a0_1 l0_2 a1_7 a1_2 a2).bind fun bt230 => (course_turns.l0 k l1_8 (l1_8.length : Int) 0 a1_0 a1_1 a1_2 a1_3 a1_4 a1_5 a1_6 a1_7 l1_8 bt230.1 bt230.2)) = some (r1, r2, r3) := h
 clear h
 replace H := Option.bind_eq_some_iff.mp H
 obtain ⟨⟨t230, t231⟩, A40, H⟩ := H
 have A4 := Aside0.mk (A40)
 clear A40
 have H' := Aside0.mk H
 clear H
 go_enter Tryd.func105, Tryd.ntmps105
 go_wp2_with (first | ((with_reducible refine gate_dst (N := 3) rfl ?_); refine bxE 3 24 #[.int .i64 a0_0, .int .i64 a0_1, .slice A0_2 l0_2.length c0_2] (by rfl) (by rfl) (by first | (go_simp; done) | (go_simp; rfl)) ?_; intro gb227 hg w5 hbox hb; have BK227 := Bk.mk (hbox); have GE227 := eB w hg; replace HB := bS w hb; clear hb hbox hg) | ((with_reducible refine gate_dst (N := 4) rfl ?_); refine bxE 4 47 #[.int .i64 a1_0, .int .i64 a1_1, .int .i64 a1_2, .int .i64 a1_3, .int .i64 a1_4, .int .i64 a1_5, .int .i64 a1_6, .int .i64 a1_7, .slice A1_8 l1_8.length c1_8] (by rfl) (by rfl) (by first | (go_simp; done) | (go_simp; rfl)) ?_; intro gb228 hg w6 hbox hb; have BK228 := Bk.mk (hbox); have GE228 := eB w hg; have NB227_228 := nB gb227 hg; replace BK227 := kB gb227 hb; replace HB := bS w hb; clear hb hbox hg) | ((with_reducible refine gate_dst (N := 6) rfl ?_); refine bxE 6 103 #[.int .i64 0, .int .i64 0] (by rfl) (by rfl) (by first | (go_simp; done) | (go_simp; rfl)) ?_; intro gb229 hg w7 hbox hb; have BK229 := Bk.mk (hbox); have GE229 := eB w hg; have NB227_229 := nB gb227 hg; have NB228_229 := nB gb228 hg; replace BK227 := kB gb227 hb; replace BK228 := kB gb228 hb; replace HB := bS w hb; clear hb hbox hg; obtain ⟨hnb8, hnc8⟩ := nn NB227_228; obtain ⟨hnb9, hnc9⟩ := nn NB227_229; obtain ⟨hcz10_0, hcz10_1, hcz10_2, hfz10_0, hfz10_1, hfz10_2⟩ := cz3 BK227; obtain ⟨hnb11, hnc11⟩ := nn NB228_229; obtain ⟨hcz12_0, hcz12_1, hcz12_2, hcz12_3, hcz12_4, hcz12_5, hcz12_6, hcz12_7, hcz12_8, hfz12_0, hfz12_1, hfz12_2, hfz12_3, hfz12_4, hfz12_5, hfz12_6, hfz12_7, hfz12_8⟩ := cz9 BK228) | ((with_reducible refine gate_callee (f := 79) rfl ?_); refine goesLM (some 17) rfl rfl Tryd.func79 (by kernel_rfl) rfl #[.agg #[.int .i64 a0_0, .int .i64 a0_1, .slice A0_2 l0_2.length c0_2], .int .i64 a1_7, .int .i64 a1_2, .int .i64 a2] rfl (by rfl) ?_; (with_reducible refine (course_turn.calls k a0_0 a0_1 _ _ l0_2 a1_7 a1_2 a2 t230 t231 _ ?side1 ?side2 A4.out).mono ?_); (case side1 => exact cP (Kd.C_below HR0_2.out HB.out)); (case side2 => exact HC0_2.out); rintro e w13 ⟨rfl, hb⟩; refine ⟨_, rfl, ?_⟩; replace BK227 := kB gb227 hb; replace BK228 := kB gb228 hb; replace BK229 := kB gb229 hb; replace HB := bS w hb; (try clear hb)) | ((with_reducible refine gate_dst (N := 8) rfl ?_); refine bxE 8 103 #[.int .i64 0, .int .i64 0] (by rfl) (by rfl) (by first | (go_simp; done) | (go_simp; rfl)) ?_; intro gb232 hg w14 hbox hb; have BK232 := Bk.mk (hbox); have GE232 := eB w hg; have NB227_232 := nB gb227 hg; have NB228_232 := nB gb228 hg; have NB229_232 := nB gb229 hg; replace BK227 := kB gb227 hb; replace BK228 := kB gb228 hb; replace BK229 := kB gb229 hb; replace HB := bS w hb; clear hb hbox hg; obtain ⟨hnc15, hnb15⟩ := nn NB227_232; obtain ⟨hnc16, hnb16⟩ := nn NB228_232; obtain ⟨hnc17, hnb17⟩ := nn NB229_232; obtain ⟨hcz18_0, hcz18_1, hfz18_0, hfz18_1⟩ := cz2 BK232; obtain ⟨hcz19_0, hcz19_1, hcz19_2, hcz19_3, hcz19_4, hcz19_5, hcz19_6, hcz19_7, hcz19_8, hfz19_0, hfz19_1, hfz19_2, hfz19_3, hfz19_4, hfz19_5, hfz19_6, hfz19_7, hfz19_8⟩ := cz9 BK228))
 go_loopg [21] k (fun kq v21 w' => ∃ (x21_1 : Int) (x233001_1 : Int), v21 = .int .i64 x21_1 ∧ Aside0 (course_turns.l0 kq l1_8 (l1_8.length : Int) x21_1 a1_0 a1_1 a1_2 a1_3 a1_4 a1_5 a1_6 a1_7 l1_8 t230 x233001_1 = some (r1, r2, r3)) ∧ Aside0 (kq ≤ k) ∧ Bk w' gb227 (.cells #[.int .i64 a0_0, .int .i64 a0_1, (.slice A0_2 l0_2.length c0_2)] 24 (0, 0)) ∧ Bk w' gb228 (.cells #[.int .i64 a1_0, .int .i64 a1_1, .int .i64 a1_2, .int .i64 a1_3, .int .i64 a1_4, .int .i64 a1_5, .int .i64 a1_6, .int .i64 a1_7, (.slice A1_8 l1_8.length c1_8)] 47 (0, 0)) ∧ Bk w' gb229 (.cells #[.int .i64 0, .int .i64 0] 103 (0, 0)) ∧ Bk w' gb232 (.cells #[.int .i64 t230, .int .i64 x233001_1] 103 (0, 0)) ∧ Bw w w')
 case atStart => exact ⟨(0), (t231), (by first | rfl | (simp; done) | (simp [*]; done)), H', ⟨Nat.le_refl _⟩, ⟨bko gb227 (by rfl)⟩, ⟨bko gb228 (by rfl)⟩, ⟨bko gb229 (by rfl)⟩, ⟨bko gb232 (by rfl)⟩, inferInstance⟩
 case round =>
  clear H'
  try clear c1
  try clear p2
  try clear c7
  try clear c8
  try clear c9
  try clear c10
  try clear c11
  try clear c15
  try clear c16
  try clear c17
  obtain ⟨x21_1, x233001_1, rfl, HA, HK1, BK227, BK228, BK229, BK232, HB⟩ := hrel
  cases gk with
  | zero => exact absurd HA.out (by simp [course_turns.l0])
  | succ k1 =>
   have H := HA.out
   clear HA
   simp only [course_turns.l0] at H
   by_cases c20 : x21_1 < (l1_8.length : Int)
   ·
    rw [if_pos c20] at H
    have c20b0 : decide (x21_1 < (l1_8.length : Int)) = true := decide_eq_true c20
    clear c20
    by_cases c21 : 0 ≤ x21_1
    ·
     rw [if_pos c21] at H
     have c21b0 : decide (0 ≤ x21_1) = true := decide_eq_true c21
     clear c21
     by_cases c22 : x21_1 < (l1_8.length : Int)
     ·
      rw [if_pos c22] at H
      have c22b0 : decide (x21_1 < (l1_8.length : Int)) = true := decide_eq_true c22
      clear c22
      obtain ⟨ji23, hji23⟩ : ∃ j_ : Int, (mn x233001_1 (wrap64 (((rd_T71 l1_8 x21_1).f2) - a1_6))) = j_ := ⟨_, rfl⟩
      replace H : (course_turns.l0 k1 l1_8 (l1_8.length : Int) (wrap64 (x21_1 + 1)) a1_0 a1_1 a1_2 a1_3 a1_4 a1_5 a1_6 a1_7 l1_8 t230 ji23) = some (r1, r2, r3) := by first | (rw [hji23] at H; exact H) | (simp only [hji23] at H ⊢; exact H)
      have hji23_ : (if (wrap64 (((rd_T71 l1_8 x21_1).f2) - a1_6)) < x233001_1 then (wrap64 (((rd_T71 l1_8 x21_1).f2) - a1_6)) else x233001_1) = ji23 := hji23
      have H' := Aside0.mk H
      clear H
      have p233 : 0 ≤ (x21_1 : Int) := of_decide_eq_true (by first | (with_reducible assumption) | assumption)
      have q233 : x21_1 < (l1_8.length : Int) := of_decide_eq_true (by first | (with_reducible assumption) | assumption)
      obtain ⟨ad233, e233, hx233_0, hx233_1, hx233_2, hx233_3, hx233_4⟩ := at_T71 HR1_8.out x21_1 p233 q233
      cases e233
      replace hx233_0 := cB HB hx233_0
      replace hx233_1 := cB HB hx233_1
      replace hx233_2 := cB HB hx233_2
      replace hx233_3 := cB HB hx233_3
      replace hx233_4 := cB HB hx233_4
      replace p233 := eq_true p233
      replace q233 := eq_true q233
      go_wp2_with (first | ((with_reducible refine gate_dst (N := 10) rfl ?_); refine bxE 10 71 #[.int .i64 0, .int .i64 0, .int .i64 0, .int .i64 0, .int .i64 0] (by rfl) (by rfl) (by first | (go_simp; done) | (go_simp; rfl)) ?_; intro gb234 hg w24 hbox hb; have BK234 := Bk.mk (hbox); have GE234 := eB w hg; have NB227_234 := nB gb227 hg; have NB228_234 := nB gb228 hg; have NB229_234 := nB gb229 hg; have NB232_234 := nB gb232 hg; replace BK227 := kB gb227 hb; replace BK228 := kB gb228 hb; replace BK229 := kB gb229 hb; replace BK232 := kB gb232 hb; replace HB := bS w hb; clear hb hbox hg; obtain ⟨hnc25, hnb25⟩ := nn NB227_234; obtain ⟨hnc26, hnb26⟩ := nn NB228_234; obtain ⟨hnc27, hnb27⟩ := nn NB229_234; obtain ⟨hnc28, hnb28⟩ := nn NB232_234; obtain ⟨hcz29_0, hcz29_1, hcz29_2, hcz29_3, hcz29_4, hfz29_0, hfz29_1, hfz29_2, hfz29_3, hfz29_4⟩ := cz5 BK234; obtain ⟨hnc30, hnb30⟩ := nn NB227_232; obtain ⟨hnc31, hnb31⟩ := nn NB228_232; obtain ⟨hnc32, hnb32⟩ := nn NB229_232; obtain ⟨hcz33_0, hcz33_1, hfz33_0, hfz33_1⟩ := cz2 BK232; obtain ⟨hnc34, hnb34⟩ := nn NB227_228; obtain ⟨hnb35, hnc35⟩ := nn NB228_229; obtain ⟨hcz36_0, hcz36_1, hcz36_2, hcz36_3, hcz36_4, hcz36_5, hcz36_6, hcz36_7, hcz36_8, hfz36_0, hfz36_1, hfz36_2, hfz36_3, hfz36_4, hfz36_5, hfz36_6, hfz36_7, hfz36_8⟩ := cz9 BK228))
      go_roundg k1
      case measure => have := HK1.out; omega
      case rel => exact ⟨(wrap64 (x21_1 + 1)), (ji23), (by first | rfl | (simp; done) | (simp [*]; done)), H', ⟨by have := HK1.out; omega⟩, ⟨bko gb227 (by rfl)⟩, ⟨bko gb228 (by rfl)⟩, ⟨bko gb229 (by rfl)⟩, ⟨bko gb232 (by rfl)⟩, inferInstance⟩
     ·
      rw [if_neg c22] at H
      exact absurd H (by simp)
    ·
     rw [if_neg c21] at H
     exact absurd H (by simp)
   ·
    rw [if_neg c20] at H
    have c20b0 : decide (x21_1 < (l1_8.length : Int)) = false := decide_eq_false c20
    clear c20
    by_cases c37 : t230 > x233001_1
    ·
     rw [if_pos c37] at H
     have c37b0 : decide (x233001_1 < t230) = true := decide_eq_true c37
     clear c37
     simp only [Option.some.injEq, Prod.mk.injEq] at H
     obtain ⟨rfl, rfl, rfl⟩ := H
     obtain ⟨hnc38, hnb38⟩ := nn NB227_232
     obtain ⟨hnc39, hnb39⟩ := nn NB228_232
     obtain ⟨hnc40, hnb40⟩ := nn NB229_232
     obtain ⟨hcz41_0, hcz41_1, hfz41_0, hfz41_1⟩ := cz2 BK232
     obtain ⟨hnc42, hnb42⟩ := nn NB227_229
     obtain ⟨hnc43, hnb43⟩ := nn NB228_229
     obtain ⟨hcz44_0, hcz44_1, hfz44_0, hfz44_1⟩ := cz2 BK229
     go_wp2
     all_goals (refine bodyPost_ret (results_ct rfl _ _ gb229 103 #[.int .i64 0, .int .i64 0] (0, 0) _ rfl (bko gb229 (by rfl)) Tryd.underlying103 rfl (by kernel_rfl)) rfl ?_; exact ⟨by first | rfl | (simp [errW_none, errW_some] <;> rfl) | (simp [*, errW_none, errW_some] <;> rfl), bw w⟩)
    ·
     rw [if_neg c37] at H
     have c37b0 : decide (x233001_1 < t230) = false := decide_eq_false c37
     clear c37
     simp only [Option.some.injEq, Prod.mk.injEq] at H
     obtain ⟨rfl, rfl, rfl⟩ := H
     obtain ⟨hnc45, hnb45⟩ := nn NB227_232
     obtain ⟨hnc46, hnb46⟩ := nn NB228_232
     obtain ⟨hnc47, hnb47⟩ := nn NB229_232
     obtain ⟨hcz48_0, hcz48_1, hfz48_0, hfz48_1⟩ := cz2 BK232
     obtain ⟨hnc49, hnb49⟩ := nn NB227_229
     obtain ⟨hnc50, hnb50⟩ := nn NB228_229
     obtain ⟨hcz51_0, hcz51_1, hfz51_0, hfz51_1⟩ := cz2 BK229
     go_wp2
     all_goals (refine bodyPost_ret (results_ct rfl _ _ gb229 103 #[.int .i64 t230, .int .i64 x233001_1] (0, 0) _ rfl (bko gb229 (by rfl)) Tryd.underlying103 rfl (by kernel_rfl)) rfl ?_; exact ⟨by first | rfl | (simp [errW_none, errW_some] <;> rfl) | (simp [*, errW_none, errW_some] <;> rfl), bw w⟩)
def course_look.f (k : Nat) (a0_0 : Int) (a0_1 : Int) (l0_2 : List (S26)) (a1_0 : Int) (a1_1 : Int) (a1_2 : Int) (a1_3 : Int) (a1_4 : Int) (a1_5 : Int) (a1_6 : Int) (a1_7 : Int) (l1_8 : List (S71)) (a2 : Int) (a3 : Int) : Option (Int × Int × Int) := (course_stakeOf.f k a0_0 a0_1 l0_2 a1_0 a1_1 a1_2 a1_3 a1_4 a1_5 a1_6 a1_7 l1_8 a2 a3).bind fun t238 => (if t238 = 0 then ((course_turns.f k a0_0 a0_1 l0_2 a1_0 a1_1 a1_2 a1_3 a1_4 a1_5 a1_6 a1_7 l1_8 a3).bind fun bt239 => (some (bt239.1, bt239.2.1, bt239.2.2))) else (some (0, 0, t238)))
theorem course_look.mono : ∀ a0 a1 a2 a3 a4 a5 a6 a7 a8 a9 a10 a11 a12 a13 k, LeO (course_look.f k a0 a1 a2 a3 a4 a5 a6 a7 a8 a9 a10 a11 a12 a13) (course_look.f (k + 1) a0 a1 a2 a3 a4 a5 a6 a7 a8 a9 a10 a11 a12 a13) := by
 intro a0 a1 a2 a3 a4 a5 a6 a7 a8 a9 a10 a11 a12 a13 k
 unfold course_look.f
 repeat' first
   | (with_reducible exact course_stakeOf.mono _ _ _ _ _ _ _ _ _ _ _ _ _ _ _)
   | (with_reducible exact course_turns.mono _ _ _ _ _ _ _ _ _ _ _ _ _ _)
   | (with_reducible exact LeO.refl _)
   | (with_reducible exact LeO.none _)
   | (with_reducible refine LeO.ite ?_ ?_)
   | (with_reducible refine LeO.bind ?_ (fun _ => ?_))
   | exact course_stakeOf.mono _ _ _ _ _ _ _ _ _ _ _ _ _ _ _
   | exact course_turns.mono _ _ _ _ _ _ _ _ _ _ _ _ _ _
   | exact LeO.none _
   | refine LeO.ite ?_ ?_
   | refine LeO.bind ?_ (fun _ => ?_)
set_option maxHeartbeats 8000000 in
set_option maxRecDepth 100000 in
theorem course_look.calls (k : Nat) (a0_0 : Int) (a0_1 : Int) (A0_2 : Option Addr) (c0_2 : Nat) (l0_2 : List (S26)) (a1_0 : Int) (a1_1 : Int) (a1_2 : Int) (a1_3 : Int) (a1_4 : Int) (a1_5 : Int) (a1_6 : Int) (a1_7 : Int) (A1_8 : Option Addr) (c1_8 : Nat) (l1_8 : List (S71)) (a2 : Int) (a3 : Int) (r1 : Int) (r2 : Int) (r3 : Int) (w : World) (hr0_2 : Kd.C k26 w A0_2 l0_2.length l0_2) (hc0_2 : l0_2.length ≤ c0_2) (hr1_8 : Kd.C k71 w A1_8 l1_8.length l1_8) (hc1_8 : l1_8.length ≤ c1_8) (h : course_look.f k a0_0 a0_1 l0_2 a1_0 a1_1 a1_2 a1_3 a1_4 a1_5 a1_6 a1_7 l1_8 a2 a3 = some (r1, r2, r3)) :
  Calls Tryd.prog 81 #[.agg #[.int .i64 a0_0, .int .i64 a0_1, .slice A0_2 l0_2.length c0_2], .agg #[.int .i64 a1_0, .int .i64 a1_1, .int .i64 a1_2, .int .i64 a1_3, .int .i64 a1_4, .int .i64 a1_5, .int .i64 a1_6, .int .i64 a1_7, .slice A1_8 l1_8.length c1_8], .int .i64 a2, .int .i64 a3] w fun e w' => e = .returned (.tuple #[.agg #[.int .i64 r1, .int .i64 r2], .int .i64 r3]) ∧ Below w.heap.size w w' := by
 have hu24 := Tryd.underlying24
 have hu47 := Tryd.underlying47
 have hu103 := Tryd.underlying103
 have HR0_2 := Aside0.mk (hr0_2)
 have HC0_2 := Aside0.mk (hc0_2)
 clear hr0_2 hc0_2
 have HR1_8 := Aside0.mk (hr1_8)
 have HC1_8 := Aside0.mk (hc1_8)
 clear hr1_8 hc1_8
 have HB := Bw.mk (Below.refl w.heap.size w)
 have H : ((course_stakeOf.f k a0_0 a0_1 l0_2 a1_0 a1_1 a1_2 a1_3 a1_4 a1_5 a1_6 a1_7 l1_8 a2 a3).bind fun t238 => (if t238 = 0 then ((course_turns.f k a0_0 a0_1 l0_2 a1_0 a1_1 a1_2 a1_3 a1_4 a1_5 a1_6 a1_7 l1_8 a3).bind fun bt239 => (some (bt239.1, bt239.2.1, bt239.2.2))) else (some (0, 0, t238)))) = some (r1, r2, r3) := h
 clear h
 replace H := Option.bind_eq_some_iff.mp H
 obtain ⟨t238, A50, H⟩ := H
 have A5 := Aside0.mk (A50)
 clear A50
 by_cases c6 : t238 = 0
 ·
  rw [if_pos c6] at H
  have c6b0 : (t238 == 0) = true := beq_iff_eq.mpr c6
  have c6b1 : (t238 != 0) = false := bne_eq_false_iff_eq.mpr c6
  clear c6
  replace H := Option.bind_eq_some_iff.mp H
  obtain ⟨⟨t239, t240, t241⟩, A70, H⟩ := H
  have A7 := Aside0.mk (A70)
  clear A70
  simp only [Option.some.injEq, Prod.mk.injEq] at H
  obtain ⟨rfl, rfl, rfl⟩ := H
  go_enter Tryd.func81, Tryd.ntmps81
  go_wp2_with (first | ((with_reducible refine gate_dst (N := 4) rfl ?_); refine bxE 4 24 #[.int .i64 a0_0, .int .i64 a0_1, .slice A0_2 l0_2.length c0_2] (by rfl) (by rfl) (by first | (go_simp; done) | (go_simp; rfl)) ?_; intro gb235 hg w8 hbox hb; have BK235 := Bk.mk (hbox); have GE235 := eB w hg; replace HB := bS w hb; clear hb hbox hg) | ((with_reducible refine gate_dst (N := 5) rfl ?_); refine bxE 5 47 #[.int .i64 a1_0, .int .i64 a1_1, .int .i64 a1_2, .int .i64 a1_3, .int .i64 a1_4, .int .i64 a1_5, .int .i64 a1_6, .int .i64 a1_7, .slice A1_8 l1_8.length c1_8] (by rfl) (by rfl) (by first | (go_simp; done) | (go_simp; rfl)) ?_; intro gb236 hg w9 hbox hb; have BK236 := Bk.mk (hbox); have GE236 := eB w hg; have NB235_236 := nB gb235 hg; replace BK235 := kB gb235 hb; replace HB := bS w hb; clear hb hbox hg) | ((with_reducible refine gate_dst (N := 8) rfl ?_); refine bxE 8 103 #[.int .i64 0, .int .i64 0] (by rfl) (by rfl) (by first | (go_simp; done) | (go_simp; rfl)) ?_; intro gb237 hg w10 hbox hb; have BK237 := Bk.mk (hbox); have GE237 := eB w hg; have NB235_237 := nB gb235 hg; have NB236_237 := nB gb236 hg; replace BK235 := kB gb235 hb; replace BK236 := kB gb236 hb; replace HB := bS w hb; clear hb hbox hg; obtain ⟨hnb11, hnc11⟩ := nn NB235_236; obtain ⟨hnb12, hnc12⟩ := nn NB235_237; obtain ⟨hcz13_0, hcz13_1, hcz13_2, hfz13_0, hfz13_1, hfz13_2⟩ := cz3 BK235; obtain ⟨hnb14, hnc14⟩ := nn NB236_237; obtain ⟨hcz15_0, hcz15_1, hcz15_2, hcz15_3, hcz15_4, hcz15_5, hcz15_6, hcz15_7, hcz15_8, hfz15_0, hfz15_1, hfz15_2, hfz15_3, hfz15_4, hfz15_5, hfz15_6, hfz15_7, hfz15_8⟩ := cz9 BK236) | ((with_reducible refine gate_callee (f := 104) rfl ?_); refine goesLM (some 15) rfl rfl Tryd.func104 (by kernel_rfl) rfl #[.agg #[.int .i64 a0_0, .int .i64 a0_1, .slice A0_2 l0_2.length c0_2], .agg #[.int .i64 a1_0, .int .i64 a1_1, .int .i64 a1_2, .int .i64 a1_3, .int .i64 a1_4, .int .i64 a1_5, .int .i64 a1_6, .int .i64 a1_7, .slice A1_8 l1_8.length c1_8], .int .i64 a2, .int .i64 a3] rfl (by rfl) ?_; (with_reducible refine (course_stakeOf.calls k a0_0 a0_1 _ _ l0_2 a1_0 a1_1 a1_2 a1_3 a1_4 a1_5 a1_6 a1_7 _ _ l1_8 a2 a3 t238 _ ?side1 ?side2 ?side3 ?side4 A5.out).mono ?_); (case side1 => exact cP (Kd.C_below HR0_2.out HB.out)); (case side2 => exact HC0_2.out); (case side3 => exact cP (Kd.C_below HR1_8.out HB.out)); (case side4 => exact HC1_8.out); rintro e w16 ⟨rfl, hb⟩; refine ⟨_, rfl, ?_⟩; replace BK235 := kB gb235 hb; replace BK236 := kB gb236 hb; replace BK237 := kB gb237 hb; replace HB := bS w hb; (try clear hb); obtain ⟨hcz17_0, hcz17_1, hcz17_2, hfz17_0, hfz17_1, hfz17_2⟩ := cz3 BK235; obtain ⟨hcz18_0, hcz18_1, hcz18_2, hcz18_3, hcz18_4, hcz18_5, hcz18_6, hcz18_7, hcz18_8, hfz18_0, hfz18_1, hfz18_2, hfz18_3, hfz18_4, hfz18_5, hfz18_6, hfz18_7, hfz18_8⟩ := cz9 BK236) | ((with_reducible refine gate_callee (f := 105) rfl ?_); refine goesLM (some 23) rfl rfl Tryd.func105 (by kernel_rfl) rfl #[.agg #[.int .i64 a0_0, .int .i64 a0_1, .slice A0_2 l0_2.length c0_2], .agg #[.int .i64 a1_0, .int .i64 a1_1, .int .i64 a1_2, .int .i64 a1_3, .int .i64 a1_4, .int .i64 a1_5, .int .i64 a1_6, .int .i64 a1_7, .slice A1_8 l1_8.length c1_8], .int .i64 a3] rfl (by rfl) ?_; (with_reducible refine (course_turns.calls k a0_0 a0_1 _ _ l0_2 a1_0 a1_1 a1_2 a1_3 a1_4 a1_5 a1_6 a1_7 _ _ l1_8 a3 t239 t240 t241 _ ?side1 ?side2 ?side3 ?side4 A7.out).mono ?_); (case side1 => exact cP (Kd.C_below HR0_2.out HB.out)); (case side2 => exact HC0_2.out); (case side3 => exact cP (Kd.C_below HR1_8.out HB.out)); (case side4 => exact HC1_8.out); rintro e w19 ⟨rfl, hb⟩; refine ⟨_, rfl, ?_⟩; replace BK235 := kB gb235 hb; replace BK236 := kB gb236 hb; replace BK237 := kB gb237 hb; replace HB := bS w hb; (try clear hb); obtain ⟨hcz20_0, hcz20_1, hfz20_0, hfz20_1⟩ := cz2 BK237))
  all_goals (refine bodyPost_ret (results_ct rfl _ _ gb237 103 #[.int .i64 t239, .int .i64 t240] (0, 0) _ rfl (bko gb237 (by rfl)) Tryd.underlying103 rfl (by kernel_rfl)) rfl ?_; exact ⟨by first | rfl | (simp [errW_none, errW_some] <;> rfl) | (simp [*, errW_none, errW_some] <;> rfl), bw w⟩)
 ·
  rw [if_neg c6] at H
  have c6b0 : (t238 == 0) = false := beq_eq_false_iff_ne.mpr c6
  have c6b1 : (t238 != 0) = true := bne_iff_ne.mpr c6
  simp only [Option.some.injEq, Prod.mk.injEq] at H
  obtain ⟨rfl, rfl, rfl⟩ := H
  go_enter Tryd.func81, Tryd.ntmps81
  go_wp2_with (first | ((with_reducible refine gate_dst (N := 4) rfl ?_); refine bxE 4 24 #[.int .i64 a0_0, .int .i64 a0_1, .slice A0_2 l0_2.length c0_2] (by rfl) (by rfl) (by first | (go_simp; done) | (go_simp; rfl)) ?_; intro gb235 hg w21 hbox hb; have BK235 := Bk.mk (hbox); have GE235 := eB w hg; replace HB := bS w hb; clear hb hbox hg) | ((with_reducible refine gate_dst (N := 5) rfl ?_); refine bxE 5 47 #[.int .i64 a1_0, .int .i64 a1_1, .int .i64 a1_2, .int .i64 a1_3, .int .i64 a1_4, .int .i64 a1_5, .int .i64 a1_6, .int .i64 a1_7, .slice A1_8 l1_8.length c1_8] (by rfl) (by rfl) (by first | (go_simp; done) | (go_simp; rfl)) ?_; intro gb236 hg w22 hbox hb; have BK236 := Bk.mk (hbox); have GE236 := eB w hg; have NB235_236 := nB gb235 hg; replace BK235 := kB gb235 hb; replace HB := bS w hb; clear hb hbox hg) | ((with_reducible refine gate_dst (N := 8) rfl ?_); refine bxE 8 103 #[.int .i64 0, .int .i64 0] (by rfl) (by rfl) (by first | (go_simp; done) | (go_simp; rfl)) ?_; intro gb237 hg w23 hbox hb; have BK237 := Bk.mk (hbox); have GE237 := eB w hg; have NB235_237 := nB gb235 hg; have NB236_237 := nB gb236 hg; replace BK235 := kB gb235 hb; replace BK236 := kB gb236 hb; replace HB := bS w hb; clear hb hbox hg; obtain ⟨hnb24, hnc24⟩ := nn NB235_236; obtain ⟨hnb25, hnc25⟩ := nn NB235_237; obtain ⟨hcz26_0, hcz26_1, hcz26_2, hfz26_0, hfz26_1, hfz26_2⟩ := cz3 BK235; obtain ⟨hnb27, hnc27⟩ := nn NB236_237; obtain ⟨hcz28_0, hcz28_1, hcz28_2, hcz28_3, hcz28_4, hcz28_5, hcz28_6, hcz28_7, hcz28_8, hfz28_0, hfz28_1, hfz28_2, hfz28_3, hfz28_4, hfz28_5, hfz28_6, hfz28_7, hfz28_8⟩ := cz9 BK236) | ((with_reducible refine gate_callee (f := 104) rfl ?_); refine goesLM (some 15) rfl rfl Tryd.func104 (by kernel_rfl) rfl #[.agg #[.int .i64 a0_0, .int .i64 a0_1, .slice A0_2 l0_2.length c0_2], .agg #[.int .i64 a1_0, .int .i64 a1_1, .int .i64 a1_2, .int .i64 a1_3, .int .i64 a1_4, .int .i64 a1_5, .int .i64 a1_6, .int .i64 a1_7, .slice A1_8 l1_8.length c1_8], .int .i64 a2, .int .i64 a3] rfl (by rfl) ?_; (with_reducible refine (course_stakeOf.calls k a0_0 a0_1 _ _ l0_2 a1_0 a1_1 a1_2 a1_3 a1_4 a1_5 a1_6 a1_7 _ _ l1_8 a2 a3 t238 _ ?side1 ?side2 ?side3 ?side4 A5.out).mono ?_); (case side1 => exact cP (Kd.C_below HR0_2.out HB.out)); (case side2 => exact HC0_2.out); (case side3 => exact cP (Kd.C_below HR1_8.out HB.out)); (case side4 => exact HC1_8.out); rintro e w29 ⟨rfl, hb⟩; refine ⟨_, rfl, ?_⟩; replace BK235 := kB gb235 hb; replace BK236 := kB gb236 hb; replace BK237 := kB gb237 hb; replace HB := bS w hb; (try clear hb); obtain ⟨hcz30_0, hcz30_1, hfz30_0, hfz30_1⟩ := cz2 BK237))
  all_goals (refine bodyPost_ret (results_ct rfl _ _ gb237 103 #[.int .i64 0, .int .i64 0] (0, 0) _ rfl (bko gb237 (by rfl)) Tryd.underlying103 rfl (by kernel_rfl)) rfl ?_; exact ⟨by first | rfl | (simp [errW_none, errW_some] <;> rfl) | (simp [*, errW_none, errW_some] <;> rfl), bw w⟩)
def course_core.f (a0_0 : Int) (a0_1 : Int) (a0_2 : Int) (a0_3 : Int) (a0_4 : Int) (a0_5 : Int) (a0_6 : Int) (a0_7 : Int) (l0_8 : List (S71)) (a1_0 : Int) (a1_1 : Int) (a1_2 : Int) (a1_3 : Int) (a1_4 : Int) (a2_0 : Int) (a2_1 : Int) : Option (Int × Int) := some (mx 0 (wrap64 ((wrap64 ((wrap64 (a1_2 - a0_6)) - a2_1)) - a1_4)), wrap64 ((wrap64 (a1_2 - a0_6)) - a2_0))
set_option maxHeartbeats 8000000 in
set_option maxRecDepth 100000 in
theorem course_core.calls (a0_0 : Int) (a0_1 : Int) (a0_2 : Int) (a0_3 : Int) (a0_4 : Int) (a0_5 : Int) (a0_6 : Int) (a0_7 : Int) (A0_8 : Option Addr) (c0_8 : Nat) (l0_8 : List (S71)) (a1_0 : Int) (a1_1 : Int) (a1_2 : Int) (a1_3 : Int) (a1_4 : Int) (a2_0 : Int) (a2_1 : Int) (r1 : Int) (r2 : Int) (w : World) (hr0_8 : Kd.C k71 w A0_8 l0_8.length l0_8) (hc0_8 : l0_8.length ≤ c0_8) (h : course_core.f a0_0 a0_1 a0_2 a0_3 a0_4 a0_5 a0_6 a0_7 l0_8 a1_0 a1_1 a1_2 a1_3 a1_4 a2_0 a2_1 = some (r1, r2)) :
  Calls Tryd.prog 82 #[.agg #[.int .i64 a0_0, .int .i64 a0_1, .int .i64 a0_2, .int .i64 a0_3, .int .i64 a0_4, .int .i64 a0_5, .int .i64 a0_6, .int .i64 a0_7, .slice A0_8 l0_8.length c0_8], .agg #[.int .i64 a1_0, .int .i64 a1_1, .int .i64 a1_2, .int .i64 a1_3, .int .i64 a1_4], .agg #[.int .i64 a2_0, .int .i64 a2_1]] w fun e w' => e = .returned (.agg #[.int .i64 r1, .int .i64 r2]) ∧ Below w.heap.size w w' := by
 have hu47 := Tryd.underlying47
 have hu71 := Tryd.underlying71
 have hu103 := Tryd.underlying103
 have HR0_8 := Aside0.mk (hr0_8)
 have HC0_8 := Aside0.mk (hc0_8)
 clear hr0_8 hc0_8
 have HB := Bw.mk (Below.refl w.heap.size w)
 have H : (some (mx 0 (wrap64 ((wrap64 ((wrap64 (a1_2 - a0_6)) - a2_1)) - a1_4)), wrap64 ((wrap64 (a1_2 - a0_6)) - a2_0))) = some (r1, r2) := h
 clear h
 obtain ⟨ji4, hji4⟩ : ∃ j_ : Int, (mx 0 (wrap64 ((wrap64 ((wrap64 (a1_2 - a0_6)) - a2_1)) - a1_4))) = j_ := ⟨_, rfl⟩
 replace H : (some (ji4, wrap64 ((wrap64 (a1_2 - a0_6)) - a2_0))) = some (r1, r2) := by first | (rw [hji4] at H; exact H) | (simp only [hji4] at H ⊢; exact H)
 (try (have hji4l : 0 ≤ ji4 := by (rw [← hji4]; unfold mx; (repeat' split) <;> omega)))
 (try (have hji4m : 0 ≤ ji4 := by omega))
 have hji4_ : (if 0 < (wrap64 ((wrap64 ((wrap64 (a1_2 - a0_6)) - a2_1)) - a1_4)) then (wrap64 ((wrap64 ((wrap64 (a1_2 - a0_6)) - a2_1)) - a1_4)) else 0) = ji4 := hji4
 simp only [Option.some.injEq, Prod.mk.injEq] at H
 obtain ⟨rfl, rfl⟩ := H
 go_enter Tryd.func82, Tryd.ntmps82
 go_wp2_with (first | ((with_reducible refine gate_dst (N := 3) rfl ?_); refine bxE 3 47 #[.int .i64 a0_0, .int .i64 a0_1, .int .i64 a0_2, .int .i64 a0_3, .int .i64 a0_4, .int .i64 a0_5, .int .i64 a0_6, .int .i64 a0_7, .slice A0_8 l0_8.length c0_8] (by rfl) (by rfl) (by first | (go_simp; done) | (go_simp; rfl)) ?_; intro gb242 hg w5 hbox hb; have BK242 := Bk.mk (hbox); have GE242 := eB w hg; replace HB := bS w hb; clear hb hbox hg) | ((with_reducible refine gate_dst (N := 4) rfl ?_); refine bxE 4 71 #[.int .i64 a1_0, .int .i64 a1_1, .int .i64 a1_2, .int .i64 a1_3, .int .i64 a1_4] (by rfl) (by rfl) (by first | (go_simp; done) | (go_simp; rfl)) ?_; intro gb243 hg w6 hbox hb; have BK243 := Bk.mk (hbox); have GE243 := eB w hg; have NB242_243 := nB gb242 hg; replace BK242 := kB gb242 hb; replace HB := bS w hb; clear hb hbox hg) | ((with_reducible refine gate_dst (N := 5) rfl ?_); refine bxE 5 103 #[.int .i64 a2_0, .int .i64 a2_1] (by rfl) (by rfl) (by first | (go_simp; done) | (go_simp; rfl)) ?_; intro gb244 hg w7 hbox hb; have BK244 := Bk.mk (hbox); have GE244 := eB w hg; have NB242_244 := nB gb242 hg; have NB243_244 := nB gb243 hg; replace BK242 := kB gb242 hb; replace BK243 := kB gb243 hb; replace HB := bS w hb; clear hb hbox hg) | ((with_reducible refine gate_dst (N := 6) rfl ?_); refine bxE 6 103 #[.int .i64 0, .int .i64 0] (by rfl) (by rfl) (by first | (go_simp; done) | (go_simp; rfl)) ?_; intro gb245 hg w8 hbox hb; have BK245 := Bk.mk (hbox); have GE245 := eB w hg; have NB242_245 := nB gb242 hg; have NB243_245 := nB gb243 hg; have NB244_245 := nB gb244 hg; replace BK242 := kB gb242 hb; replace BK243 := kB gb243 hb; replace BK244 := kB gb244 hb; replace HB := bS w hb; clear hb hbox hg; obtain ⟨hnc9, hnb9⟩ := nn NB242_243; obtain ⟨hnb10, hnc10⟩ := nn NB243_244; obtain ⟨hnb11, hnc11⟩ := nn NB243_245; obtain ⟨hcz12_0, hcz12_1, hcz12_2, hcz12_3, hcz12_4, hfz12_0, hfz12_1, hfz12_2, hfz12_3, hfz12_4⟩ := cz5 BK243; obtain ⟨hnb13, hnc13⟩ := nn NB242_244; obtain ⟨hnb14, hnc14⟩ := nn NB242_245; obtain ⟨hcz15_0, hcz15_1, hcz15_2, hcz15_3, hcz15_4, hcz15_5, hcz15_6, hcz15_7, hcz15_8, hfz15_0, hfz15_1, hfz15_2, hfz15_3, hfz15_4, hfz15_5, hfz15_6, hfz15_7, hfz15_8⟩ := cz9 BK242; obtain ⟨hnb16, hnc16⟩ := nn NB244_245; obtain ⟨hcz17_0, hcz17_1, hfz17_0, hfz17_1⟩ := cz2 BK244; obtain ⟨hcz18_0, hcz18_1, hfz18_0, hfz18_1⟩ := cz2 BK245))
 all_goals (refine bodyPost_ret (results_cell_row rfl _ _ gb245 103 #[.int .i64 ji4, .int .i64 (wrap64 ((wrap64 (a1_2 - a0_6)) - a2_0))] (0, 0) _ rfl (bko gb245 (by rfl)) Tryd.underlying103 rfl (by kernel_rfl)) rfl ?_; exact ⟨by first | rfl | (simp [errW_none, errW_some] <;> rfl) | (simp only [← hji4]; first | rfl | (simp [errW_none, errW_some] <;> rfl)) | (simp [*, errW_none, errW_some] <;> rfl), bw w⟩)
def course_Core.f (k : Nat) (a0_0 : Int) (a0_1 : Int) (l0_2 : List (S26)) (a1_0 : Int) (a1_1 : Int) (a1_2 : Int) (a1_3 : Int) (a1_4 : Int) (a1_5 : Int) (a1_6 : Int) (a1_7 : Int) (l1_8 : List (S71)) (a2 : Int) (a3 : Int) : Option (Int × Int × Int) := (course_look.f k a0_0 a0_1 l0_2 a1_0 a1_1 a1_2 a1_3 a1_4 a1_5 a1_6 a1_7 l1_8 a2 a3).bind fun bt249 => (if bt249.2.2 = 0 then (if 0 ≤ a2 then (if a2 < (l1_8.length : Int) then ((course_core.f a1_0 a1_1 a1_2 a1_3 a1_4 a1_5 a1_6 a1_7 l1_8 ((rd_T71 l1_8 a2).f0) ((rd_T71 l1_8 a2).f1) ((rd_T71 l1_8 a2).f2) ((rd_T71 l1_8 a2).f3) ((rd_T71 l1_8 a2).f4) bt249.1 bt249.2.1).bind fun bt254 => (some (bt254.1, bt254.2, 0))) else (none)) else (none)) else (some (0, 0, bt249.2.2)))
theorem course_Core.mono : ∀ a0 a1 a2 a3 a4 a5 a6 a7 a8 a9 a10 a11 a12 a13 k, LeO (course_Core.f k a0 a1 a2 a3 a4 a5 a6 a7 a8 a9 a10 a11 a12 a13) (course_Core.f (k + 1) a0 a1 a2 a3 a4 a5 a6 a7 a8 a9 a10 a11 a12 a13) := by
 intro a0 a1 a2 a3 a4 a5 a6 a7 a8 a9 a10 a11 a12 a13 k
 unfold course_Core.f
 repeat' first
   | (with_reducible exact course_look.mono _ _ _ _ _ _ _ _ _ _ _ _ _ _ _)
   | (with_reducible exact LeO.refl _)
   | (with_reducible exact LeO.none _)
   | (with_reducible refine LeO.ite ?_ ?_)
   | (with_reducible refine LeO.bind ?_ (fun _ => ?_))
   | exact course_look.mono _ _ _ _ _ _ _ _ _ _ _ _ _ _ _
   | exact LeO.none _
   | refine LeO.ite ?_ ?_
   | refine LeO.bind ?_ (fun _ => ?_)
def course_Core.T4 : Bool × List (List Nat × List Nat) := (true, [([], []), ([], []), ([1], [1]), ([], []), ([2, 3], [2, 3]), ([4], [4]), ([], []), ([0, 5, 6], [0, 5, 6]), ([], []), ([8, 7, 7, 0, 1, 2, 3, 4, 5, 6, 7, 8], [7, 8])])
def course_Core.B4 : List Nat := [0, 0, 2, 0, 14, 30, 0, 127, 0, 511]
theorem course_Core.tab4 : rtab .any (opsOf Tryd.f27 4) = course_Core.T4 := by kernel_rfl
theorem course_Core.bits4 : waitsOk course_Core.T4.2 course_Core.B4 = true := by kernel_rfl
set_option maxHeartbeats 8000000 in
set_option maxRecDepth 100000 in
theorem course_Core.calls (k : Nat) (a0_0 : Int) (a0_1 : Int) (A0_2 : Option Addr) (c0_2 : Nat) (l0_2 : List (S26)) (a1_0 : Int) (a1_1 : Int) (a1_2 : Int) (a1_3 : Int) (a1_4 : Int) (a1_5 : Int) (a1_6 : Int) (a1_7 : Int) (A1_8 : Option Addr) (c1_8 : Nat) (l1_8 : List (S71)) (a2 : Int) (a3 : Int) (r1 : Int) (r2 : Int) (r3 : Int) (w : World) (hr0_2 : Kd.C k26 w A0_2 l0_2.length l0_2) (hc0_2 : l0_2.length ≤ c0_2) (hr1_8 : Kd.C k71 w A1_8 l1_8.length l1_8) (hc1_8 : l1_8.length ≤ c1_8) (h : course_Core.f k a0_0 a0_1 l0_2 a1_0 a1_1 a1_2 a1_3 a1_4 a1_5 a1_6 a1_7 l1_8 a2 a3 = some (r1, r2, r3)) :
  Calls Tryd.prog 27 #[.agg #[.int .i64 a0_0, .int .i64 a0_1, .slice A0_2 l0_2.length c0_2], .agg #[.int .i64 a1_0, .int .i64 a1_1, .int .i64 a1_2, .int .i64 a1_3, .int .i64 a1_4, .int .i64 a1_5, .int .i64 a1_6, .int .i64 a1_7, .slice A1_8 l1_8.length c1_8], .int .i64 a2, .int .i64 a3] w fun e w' => e = .returned (.tuple #[.agg #[.int .i64 r1, .int .i64 r2], .int .i64 r3]) ∧ Below w.heap.size w w' := by
 have hu24 := Tryd.underlying24
 have hu47 := Tryd.underlying47
 have hu40 := Tryd.underlying40
 have hu103 := Tryd.underlying103
 have hu71 := Tryd.underlying71
 have HR0_2 := Aside0.mk (hr0_2)
 have HC0_2 := Aside0.mk (hc0_2)
 clear hr0_2 hc0_2
 have HR1_8 := Aside0.mk (hr1_8)
 have HC1_8 := Aside0.mk (hc1_8)
 clear hr1_8 hc1_8
 have HB := Bw.mk (Below.refl w.heap.size w)
 have H : ((course_look.f k a0_0 a0_1 l0_2 a1_0 a1_1 a1_2 a1_3 a1_4 a1_5 a1_6 a1_7 l1_8 a2 a3).bind fun bt249 => (if bt249.2.2 = 0 then (if 0 ≤ a2 then (if a2 < (l1_8.length : Int) then ((course_core.f a1_0 a1_1 a1_2 a1_3 a1_4 a1_5 a1_6 a1_7 l1_8 ((rd_T71 l1_8 a2).f0) ((rd_T71 l1_8 a2).f1) ((rd_T71 l1_8 a2).f2) ((rd_T71 l1_8 a2).f3) ((rd_T71 l1_8 a2).f4) bt249.1 bt249.2.1).bind fun bt254 => (some (bt254.1, bt254.2, 0))) else (none)) else (none)) else (some (0, 0, bt249.2.2)))) = some (r1, r2, r3) := h
 clear h
 replace H := Option.bind_eq_some_iff.mp H
 obtain ⟨⟨t249, t250, t251⟩, A50, H⟩ := H
 have A5 := Aside0.mk (A50)
 clear A50
 by_cases c6 : t251 = 0
 ·
  rw [if_pos c6] at H
  have c6b0 : (t251 == 0) = true := beq_iff_eq.mpr c6
  have c6b1 : (t251 != 0) = false := bne_eq_false_iff_eq.mpr c6
  clear c6
  by_cases c7 : 0 ≤ a2
  ·
   rw [if_pos c7] at H
   have c7b0 : decide (0 ≤ a2) = true := decide_eq_true c7
   clear c7
   by_cases c8 : a2 < (l1_8.length : Int)
   ·
    rw [if_pos c8] at H
    have c8b0 : decide (a2 < (l1_8.length : Int)) = true := decide_eq_true c8
    clear c8
    replace H := Option.bind_eq_some_iff.mp H
    obtain ⟨⟨t254, t255⟩, A90, H⟩ := H
    have A9 := Aside0.mk (A90)
    clear A90
    simp only [Option.some.injEq, Prod.mk.injEq] at H
    obtain ⟨rfl, rfl, rfl⟩ := H
    go_enter Tryd.func27, Tryd.ntmps27
    try go_wp2_with (first | ((with_reducible refine gate_dst (N := 4) rfl ?_); refine bxE 4 24 #[.int .i64 a0_0, .int .i64 a0_1, .slice A0_2 l0_2.length c0_2] (by rfl) (by rfl) (by first | (go_simp; done) | (go_simp; rfl)) ?_; intro gb246 hg w10 hbox hb; have BK246 := Bk.mk (hbox); have GE246 := eB w hg; replace HB := bS w hb; clear hb hbox hg) | ((with_reducible refine gate_dst (N := 5) rfl ?_); refine bxE 5 47 #[.int .i64 a1_0, .int .i64 a1_1, .int .i64 a1_2, .int .i64 a1_3, .int .i64 a1_4, .int .i64 a1_5, .int .i64 a1_6, .int .i64 a1_7, .slice A1_8 l1_8.length c1_8] (by rfl) (by rfl) (by first | (go_simp; done) | (go_simp; rfl)) ?_; intro gb247 hg w11 hbox hb; have BK247 := Bk.mk (hbox); have GE247 := eB w hg; have NB246_247 := nB gb246 hg; replace BK246 := kB gb246 hb; replace HB := bS w hb; clear hb hbox hg) | ((with_reducible refine gate_dst (N := 8) rfl ?_); refine bxE 8 40 #[.int .i64 0, .int .i64 0] (by rfl) (by rfl) (by first | (go_simp; done) | (go_simp; rfl)) ?_; intro gb248 hg w12 hbox hb; have BK248 := Bk.mk (hbox); have GE248 := eB w hg; have NB246_248 := nB gb246 hg; have NB247_248 := nB gb247 hg; replace BK246 := kB gb246 hb; replace BK247 := kB gb247 hb; replace HB := bS w hb; clear hb hbox hg; obtain ⟨hnb13, hnc13⟩ := nn NB246_247; obtain ⟨hnb14, hnc14⟩ := nn NB246_248; obtain ⟨hcz15_0, hcz15_1, hcz15_2, hfz15_0, hfz15_1, hfz15_2⟩ := cz3 BK246; obtain ⟨hnb16, hnc16⟩ := nn NB247_248; obtain ⟨hcz17_0, hcz17_1, hcz17_2, hcz17_3, hcz17_4, hcz17_5, hcz17_6, hcz17_7, hcz17_8, hfz17_0, hfz17_1, hfz17_2, hfz17_3, hfz17_4, hfz17_5, hfz17_6, hfz17_7, hfz17_8⟩ := cz9 BK247) | ((with_reducible refine gate_callee (f := 81) rfl ?_); refine goesLM (some 18) rfl rfl Tryd.func81 (by kernel_rfl) rfl #[.agg #[.int .i64 a0_0, .int .i64 a0_1, .slice A0_2 l0_2.length c0_2], .agg #[.int .i64 a1_0, .int .i64 a1_1, .int .i64 a1_2, .int .i64 a1_3, .int .i64 a1_4, .int .i64 a1_5, .int .i64 a1_6, .int .i64 a1_7, .slice A1_8 l1_8.length c1_8], .int .i64 a2, .int .i64 a3] rfl (by rfl) ?_; (with_reducible refine (course_look.calls k a0_0 a0_1 _ _ l0_2 a1_0 a1_1 a1_2 a1_3 a1_4 a1_5 a1_6 a1_7 _ _ l1_8 a2 a3 t249 t250 t251 _ ?side1 ?side2 ?side3 ?side4 A5.out).mono ?_); (case side1 => exact cP (Kd.C_below HR0_2.out HB.out)); (case side2 => exact HC0_2.out); (case side3 => exact cP (Kd.C_below HR1_8.out HB.out)); (case side4 => exact HC1_8.out); rintro e w18 ⟨rfl, hb⟩; refine ⟨_, rfl, ?_⟩; replace BK246 := kB gb246 hb; replace BK247 := kB gb247 hb; replace BK248 := kB gb248 hb; replace HB := bS w hb; (try clear hb)) | ((with_reducible refine gate_dst (N := 10) rfl ?_); refine bxE 10 103 #[.int .i64 0, .int .i64 0] (by rfl) (by rfl) (by first | (go_simp; done) | (go_simp; rfl)) ?_; intro gb252 hg w19 hbox hb; have BK252 := Bk.mk (hbox); have GE252 := eB w hg; have NB246_252 := nB gb246 hg; have NB247_252 := nB gb247 hg; have NB248_252 := nB gb248 hg; replace BK246 := kB gb246 hb; replace BK247 := kB gb247 hb; replace BK248 := kB gb248 hb; replace HB := bS w hb; clear hb hbox hg; obtain ⟨hnc20, hnb20⟩ := nn NB246_252; obtain ⟨hnc21, hnb21⟩ := nn NB247_252; obtain ⟨hnc22, hnb22⟩ := nn NB248_252; obtain ⟨hcz23_0, hcz23_1, hfz23_0, hfz23_1⟩ := cz2 BK252))
    have n0_ : Bk ((w19.setCell ⟨gb252, 0, none⟩ (.int .i64 t249)).setCell ⟨gb252, 1, none⟩ (.int .i64 t250)) gb246 (.cells #[.int .i64 a0_0, .int .i64 a0_1, .slice A0_2 l0_2.length c0_2] 24 (0, 0)) := ⟨bko gb246 (by rfl)⟩
    have n1_ : Bk ((w19.setCell ⟨gb252, 0, none⟩ (.int .i64 t249)).setCell ⟨gb252, 1, none⟩ (.int .i64 t250)) gb247 (.cells #[.int .i64 a1_0, .int .i64 a1_1, .int .i64 a1_2, .int .i64 a1_3, .int .i64 a1_4, .int .i64 a1_5, .int .i64 a1_6, .int .i64 a1_7, .slice A1_8 l1_8.length c1_8] 47 (0, 0)) := ⟨bko gb247 (by rfl)⟩
    have n2_ : Bk ((w19.setCell ⟨gb252, 0, none⟩ (.int .i64 t249)).setCell ⟨gb252, 1, none⟩ (.int .i64 t250)) gb248 (.cells #[.int .i64 0, .int .i64 0] 40 (0, 0)) := ⟨bko gb248 (by rfl)⟩
    have n3_ : Bk ((w19.setCell ⟨gb252, 0, none⟩ (.int .i64 t249)).setCell ⟨gb252, 1, none⟩ (.int .i64 t250)) gb252 (.cells #[.int .i64 t249, .int .i64 t250] 103 (0, 0)) := ⟨bko gb252 (by rfl)⟩
    have n4_ : Bw w ((w19.setCell ⟨gb252, 0, none⟩ (.int .i64 t249)).setCell ⟨gb252, 1, none⟩ (.int .i64 t250)) := inferInstance
    (try clear BK246)
    (try clear BK247)
    (try clear BK248)
    (try clear BK252)
    (try clear HB)
    generalize ((w19.setCell ⟨gb252, 0, none⟩ (.int .i64 t249)).setCell ⟨gb252, 1, none⟩ (.int .i64 t250)) = w24 at n0_ n1_ n2_ n3_ n4_ ⊢
    have BK246 := n0_
    have BK247 := n1_
    have BK248 := n2_
    have BK252 := n3_
    have HB := n4_
    clear n0_ n1_ n2_ n3_ n4_
    have n0_ := Bk.mk (blk_drew BK246.out)
    have n1_ := Bk.mk (blk_drew BK247.out)
    have n2_ := Bk.mk (blk_drew BK248.out)
    have n3_ := Bk.mk (blk_drew BK252.out)
    have n4_ := Bw.mk (below_drew1 HB.out)
    clear BK246 BK247 BK248 BK252 HB
    have BK246 := n0_
    have BK247 := n1_
    have BK248 := n2_
    have BK252 := n3_
    have HB := n4_
    clear n0_ n1_ n2_ n3_ n4_
    have p253 : 0 ≤ (a2 : Int) := of_decide_eq_true (by first | (with_reducible assumption) | assumption)
    have q253 : a2 < (l1_8.length : Int) := of_decide_eq_true (by first | (with_reducible assumption) | assumption)
    obtain ⟨ad253, e253, hx253_0, hx253_1, hx253_2, hx253_3, hx253_4⟩ := at_T71 HR1_8.out a2 p253 q253
    have hw253_4 := hx253_4
    have hw253_3 := hx253_3
    have hw253_2 := hx253_2
    have hw253_1 := hx253_1
    have hw253_0 := hx253_0
    cases e253
    replace hx253_0 := cB HB hx253_0
    replace hx253_1 := cB HB hx253_1
    replace hx253_2 := cB HB hx253_2
    replace hx253_3 := cB HB hx253_3
    replace hx253_4 := cB HB hx253_4
    replace p253 := eq_true p253
    replace q253 := eq_true q253
    refine start_ (n := 10) (S := fun w' => w'.cell? ⟨gb247, 0, none⟩ = some (.int .i64 a1_0) ∧ w'.cell? ⟨gb247, 1, none⟩ = some (.int .i64 a1_1) ∧ w'.cell? ⟨gb247, 2, none⟩ = some (.int .i64 a1_2) ∧ w'.cell? ⟨gb247, 3, none⟩ = some (.int .i64 a1_3) ∧ w'.cell? ⟨gb247, 4, none⟩ = some (.int .i64 a1_4) ∧ w'.cell? ⟨gb247, 5, none⟩ = some (.int .i64 a1_5) ∧ w'.cell? ⟨gb247, 6, none⟩ = some (.int .i64 a1_6) ∧ w'.cell? ⟨gb247, 7, none⟩ = some (.int .i64 a1_7) ∧ w'.cell? ⟨gb247, 8, none⟩ = some (.slice (some ad253) l1_8.length c1_8) ∧ w'.cell? ⟨gb252, 0, none⟩ = some (.int .i64 t249) ∧ w'.cell? ⟨gb252, 1, none⟩ = some (.int .i64 t250) ∧ w'.cell? (ad253.add ((a2).toNat * 5)) = some (.int .i64 ((rd_T71 l1_8 a2).f0)) ∧ w'.cell? ⟨(ad253.add ((a2).toNat * 5)).block, (ad253.add ((a2).toNat * 5)).off + 1, none⟩ = some (.int .i64 ((rd_T71 l1_8 a2).f1)) ∧ w'.cell? ⟨(ad253.add ((a2).toNat * 5)).block, (ad253.add ((a2).toNat * 5)).off + 2, none⟩ = some (.int .i64 ((rd_T71 l1_8 a2).f2)) ∧ w'.cell? ⟨(ad253.add ((a2).toNat * 5)).block, (ad253.add ((a2).toNat * 5)).off + 3, none⟩ = some (.int .i64 ((rd_T71 l1_8 a2).f3)) ∧ w'.cell? ⟨(ad253.add ((a2).toNat * 5)).block, (ad253.add ((a2).toNat * 5)).off + 4, none⟩ = some (.int .i64 ((rd_T71 l1_8 a2).f4))) (ds := []) #[false, false, false, false, false, false, false, false, false, false] (by kernel_rfl) rfl rfl ⟨bc BK247 0, bc BK247 1, bc BK247 2, bc BK247 3, bc BK247 4, bc BK247 5, bc BK247 6, bc BK247 7, bc BK247 8, bc BK252 0, bc BK252 1, ((HB.out.cell (World.block_lt_of_cell? w _ hw253_0)).trans hw253_0), ((HB.out.cell (World.block_lt_of_cell? w _ hw253_1)).trans hw253_1), ((HB.out.cell (World.block_lt_of_cell? w _ hw253_2)).trans hw253_2), ((HB.out.cell (World.block_lt_of_cell? w _ hw253_3)).trans hw253_3), ((HB.out.cell (World.block_lt_of_cell? w _ hw253_4)).trans hw253_4)⟩ (fun hHeld => ?_); refine with_tabW course_Core.tab4 course_Core.bits4 (fun HT_ HW_ => ?_)
    generalize w24.drew = w25 at BK246 BK247 BK248 BK252 HB hx253_0 hx253_1 hx253_2 hx253_3 hx253_4 hHeld ⊢
    refine pS 1 (some 26) rfl rfl (any_of HT_.out (by kernel_rfl)) (fun _ _ _ h => h) (by rfl) (fun w' => by go_simp; with_reducible rfl) (by simp only [Act.put, List.setIfInBounds_toArray, List.set_cons_zero, List.set_cons_succ, i64_w]; rfl) ?_
    refine pS 3 (some 28) rfl rfl (any_of HT_.out (by kernel_rfl)) (fun _ _ _ h => h) (by rfl) (fun w' => by go_simp; with_reducible rfl) (by simp only [Act.put, List.setIfInBounds_toArray, List.set_cons_zero, List.set_cons_succ, i64_w]; rfl) ?_
    refine tS 0 (some 25) rfl rfl (take_ofW HT_.out HW_.out (by kernel_rfl)) (fun _ _ _ h => h) (by rfl) (by rintro w' ⟨s0, s1, s2, s3, s4, s5, s6, s7, s8, s9, s10, s11, s12, s13, s14, s15⟩; go_simp; with_reducible rfl) hHeld (by simp only [Act.put, List.setIfInBounds_toArray, List.set_cons_zero, List.set_cons_succ, i64_w]; rfl) ?_
    refine tS 2 (some 27) rfl rfl (take_ofW HT_.out HW_.out (by kernel_rfl)) (fun _ _ _ h => h) (by rfl) (by rintro w' ⟨s0, s1, s2, s3, s4, s5, s6, s7, s8, s9, s10, s11, s12, s13, s14, s15⟩; go_simp; with_reducible rfl) hHeld (by simp only [Act.put, List.setIfInBounds_toArray, List.set_cons_zero, List.set_cons_succ, i64_w]; rfl) ?_
    refine pS 4 (some 29) rfl rfl (any_of HT_.out (by kernel_rfl)) (fun _ _ _ h => h) (by rfl) (fun w' => by go_simp; with_reducible rfl) (by simp only [Act.put, List.setIfInBounds_toArray, List.set_cons_zero, List.set_cons_succ, i64_w]; rfl) ?_
    refine tS 5 (some 30) rfl rfl (take_ofW HT_.out HW_.out (by kernel_rfl)) (fun _ _ _ h => h) (by rfl) (by rintro w' ⟨s0, s1, s2, s3, s4, s5, s6, s7, s8, s9, s10, s11, s12, s13, s14, s15⟩; go_simp; with_reducible rfl) hHeld (by simp only [Act.put, List.setIfInBounds_toArray, List.set_cons_zero, List.set_cons_succ, i64_w]; rfl) ?_
    refine tS 6 (some 31) rfl rfl (take_ofW HT_.out HW_.out (by kernel_rfl)) (fun _ _ _ h => h) (by rfl) (by rintro w' ⟨s0, s1, s2, s3, s4, s5, s6, s7, s8, s9, s10, s11, s12, s13, s14, s15⟩; go_simp; with_reducible rfl) hHeld (by simp only [Act.put, List.setIfInBounds_toArray, List.set_cons_zero, List.set_cons_succ, i64_w]; rfl) ?_
    refine join_ (σ := Nat) 1 #[true, true, true, true, true, true, true, true, true, false] (fun s_ => [(32, .agg #[.int .i64 t254, .int .i64 t255]), (12, .pointer (some ⟨s_, 0, none⟩))]) (fun s_ w' => (w'.cell? ⟨gb247, 0, none⟩ = some (.int .i64 a1_0) ∧ w'.cell? ⟨gb247, 1, none⟩ = some (.int .i64 a1_1) ∧ w'.cell? ⟨gb247, 2, none⟩ = some (.int .i64 a1_2) ∧ w'.cell? ⟨gb247, 3, none⟩ = some (.int .i64 a1_3) ∧ w'.cell? ⟨gb247, 4, none⟩ = some (.int .i64 a1_4) ∧ w'.cell? ⟨gb247, 5, none⟩ = some (.int .i64 a1_5) ∧ w'.cell? ⟨gb247, 6, none⟩ = some (.int .i64 a1_6) ∧ w'.cell? ⟨gb247, 7, none⟩ = some (.int .i64 a1_7) ∧ w'.cell? ⟨gb247, 8, none⟩ = some (.slice (some ad253) l1_8.length c1_8) ∧ w'.cell? ⟨gb252, 0, none⟩ = some (.int .i64 t249) ∧ w'.cell? ⟨gb252, 1, none⟩ = some (.int .i64 t250) ∧ w'.cell? (ad253.add ((a2).toNat * 5)) = some (.int .i64 ((rd_T71 l1_8 a2).f0)) ∧ w'.cell? ⟨(ad253.add ((a2).toNat * 5)).block, (ad253.add ((a2).toNat * 5)).off + 1, none⟩ = some (.int .i64 ((rd_T71 l1_8 a2).f1)) ∧ w'.cell? ⟨(ad253.add ((a2).toNat * 5)).block, (ad253.add ((a2).toNat * 5)).off + 2, none⟩ = some (.int .i64 ((rd_T71 l1_8 a2).f2)) ∧ w'.cell? ⟨(ad253.add ((a2).toNat * 5)).block, (ad253.add ((a2).toNat * 5)).off + 3, none⟩ = some (.int .i64 ((rd_T71 l1_8 a2).f3)) ∧ w'.cell? ⟨(ad253.add ((a2).toNat * 5)).block, (ad253.add ((a2).toNat * 5)).off + 4, none⟩ = some (.int .i64 ((rd_T71 l1_8 a2).f4))) ∧ (w'.heap[gb246]? = some (.cells #[.int .i64 a0_0, .int .i64 a0_1, .slice A0_2 l0_2.length c0_2] 24 (0, 0))) ∧ (w'.heap[gb247]? = some (.cells #[.int .i64 a1_0, .int .i64 a1_1, .int .i64 a1_2, .int .i64 a1_3, .int .i64 a1_4, .int .i64 a1_5, .int .i64 a1_6, .int .i64 a1_7, .slice (some ad253) l1_8.length c1_8] 47 (0, 0))) ∧ (w'.heap[gb248]? = some (.cells #[.int .i64 0, .int .i64 0] 40 (0, 0))) ∧ (w'.heap[gb252]? = some (.cells #[.int .i64 t249, .int .i64 t250] 103 (0, 0))) ∧ (w'.heap[s_]? = some (.cells #[.int .i64 0, .int .i64 0] 103 (0, 0))) ∧ (w.heap.size ≤ s_) ∧ (w.heap.size ≤ s_) ∧ (gb246 ≠ s_) ∧ (s_ ≠ gb246) ∧ (gb247 ≠ s_) ∧ (s_ ≠ gb247) ∧ (gb248 ≠ s_) ∧ (s_ ≠ gb248) ∧ (gb252 ≠ s_) ∧ (s_ ≠ gb252) ∧ (Below w.heap.size w w')) ?_ ?_
    rotate_left
    ·
     intro hCont
     refine two_ (i := 7) (j := 8) (Ni := some 32) (Nj := some 12) #[true, true, true, true, true, true, true, true, false, false] #[true, true, true, true, true, true, true, false, true, false] rfl rfl rfl rfl (two_of HT_.out (by kernel_rfl)) (by decide) (by decide) (fun K hK => ?_) (fun K hK => ?_)
     ·
      skip
      refine goesM Tryd.func82 (by kernel_rfl) rfl #[.agg #[.int .i64 a1_0, .int .i64 a1_1, .int .i64 a1_2, .int .i64 a1_3, .int .i64 a1_4, .int .i64 a1_5, .int .i64 a1_6, .int .i64 a1_7, .slice (some ad253) l1_8.length c1_8], .agg #[.int .i64 ((rd_T71 l1_8 a2).f0), .int .i64 ((rd_T71 l1_8 a2).f1), .int .i64 ((rd_T71 l1_8 a2).f2), .int .i64 ((rd_T71 l1_8 a2).f3), .int .i64 ((rd_T71 l1_8 a2).f4)], .agg #[.int .i64 t249, .int .i64 t250]] (by rfl) rfl rfl (by rfl) ?_
      with_reducible refine (course_core.calls a1_0 a1_1 a1_2 a1_3 a1_4 a1_5 a1_6 a1_7 _ _ l1_8 ((rd_T71 l1_8 a2).f0) ((rd_T71 l1_8 a2).f1) ((rd_T71 l1_8 a2).f2) ((rd_T71 l1_8 a2).f3) ((rd_T71 l1_8 a2).f4) t249 t250 t254 t255 _ ?side1 ?side2 A9.out).mono ?_
      (case side1 => exact cP (Kd.C_below HR1_8.out HB.out))
      (case side2 => exact HC1_8.out)
      rintro e w26 ⟨rfl, hb⟩
      refine ⟨_, rfl, ?_⟩
      replace BK246 := kB gb246 hb
      replace BK247 := kB gb247 hb
      replace BK248 := kB gb248 hb
      replace BK252 := kB gb252 hb
      replace HB := bS w hb
      (try clear hb)
      refine hK.out _ _ ⟨bc BK247 0, bc BK247 1, bc BK247 2, bc BK247 3, bc BK247 4, bc BK247 5, bc BK247 6, bc BK247 7, bc BK247 8, bc BK252 0, bc BK252 1, ((HB.out.cell (World.block_lt_of_cell? w _ hw253_0)).trans hw253_0), ((HB.out.cell (World.block_lt_of_cell? w _ hw253_1)).trans hw253_1), ((HB.out.cell (World.block_lt_of_cell? w _ hw253_2)).trans hw253_2), ((HB.out.cell (World.block_lt_of_cell? w _ hw253_3)).trans hw253_3), ((HB.out.cell (World.block_lt_of_cell? w _ hw253_4)).trans hw253_4)⟩ (fun hHeld => ?_)
      clear hK K
      refine norm_ (a' := ?_) ?_ ?_
      rotate_left
      ·
       show Act.put _ (some 32) _ = _
       simp only [Act.put, List.setIfInBounds_toArray, List.set_cons_zero, List.set_cons_succ, i64_w]
       rfl
      refine one_ (i := 8) (N := some 12) #[true, true, true, true, true, true, true, true, true, false] rfl rfl (one_of HT_.out (by kernel_rfl)) (by decide) (fun K hK => ?_)
      refine box_step ?hg (N := 12) ?hd (cs := #[.int .i64 0, .int .i64 0]) (t := 103) ?hr ?_; (case hd => rfl); (case hg => rfl); (case hr => first | (go_simp; done) | (go_simp; rfl))
      intro gb256 hg w27 hbox hb
      have BK256 := Bk.mk (hbox)
      have GW256 := eB w hg
      have GE256 := eB w hg
      have NB246_256 := nB gb246 hg
      have NB256_246 := nB' gb246 hg
      have NB247_256 := nB gb247 hg
      have NB256_247 := nB' gb247 hg
      have NB248_256 := nB gb248 hg
      have NB256_248 := nB' gb248 hg
      have NB252_256 := nB gb252 hg
      have NB256_252 := nB' gb252 hg
      replace BK246 := kB gb246 hb
      replace BK247 := kB gb247 hb
      replace BK248 := kB gb248 hb
      replace BK252 := kB gb252 hb
      replace HB := bS w hb
      clear hb hbox hg
      refine hK.out _ _ ⟨bc BK247 0, bc BK247 1, bc BK247 2, bc BK247 3, bc BK247 4, bc BK247 5, bc BK247 6, bc BK247 7, bc BK247 8, bc BK252 0, bc BK252 1, ((HB.out.cell (World.block_lt_of_cell? w _ hw253_0)).trans hw253_0), ((HB.out.cell (World.block_lt_of_cell? w _ hw253_1)).trans hw253_1), ((HB.out.cell (World.block_lt_of_cell? w _ hw253_2)).trans hw253_2), ((HB.out.cell (World.block_lt_of_cell? w _ hw253_3)).trans hw253_3), ((HB.out.cell (World.block_lt_of_cell? w _ hw253_4)).trans hw253_4)⟩ (fun hHeld => ?_)
      clear hK K
      refine norm_ (a' := ?_) ?_ ?_
      rotate_left
      ·
       show Act.put _ (some 12) _ = _
       simp only [Act.put, List.setIfInBounds_toArray, List.set_cons_zero, List.set_cons_succ, i64_w]
       rfl
      exact norm_ (by simp only [putAll, Act.put, List.setIfInBounds_toArray, List.set_cons_zero, List.set_cons_succ]) (hCont (gb256) _ ⟨hHeld, (bk _ gb246), (bk _ gb247), (bk _ gb248), (bk _ gb252), (bk _ gb256), GW256.out, GE256.out, NB246_256.out, NB256_246.out, NB247_256.out, NB256_247.out, NB248_256.out, NB256_248.out, NB252_256.out, NB256_252.out, (bw w)⟩)
     ·
      skip
      refine box_step ?hg (N := 12) ?hd (cs := #[.int .i64 0, .int .i64 0]) (t := 103) ?hr ?_; (case hd => rfl); (case hg => rfl); (case hr => first | (go_simp; done) | (go_simp; rfl))
      intro gb256 hg w26 hbox hb
      have BK256 := Bk.mk (hbox)
      have GW256 := eB w hg
      have GE256 := eB w hg
      have NB246_256 := nB gb246 hg
      have NB256_246 := nB' gb246 hg
      have NB247_256 := nB gb247 hg
      have NB256_247 := nB' gb247 hg
      have NB248_256 := nB gb248 hg
      have NB256_248 := nB' gb248 hg
      have NB252_256 := nB gb252 hg
      have NB256_252 := nB' gb252 hg
      replace BK246 := kB gb246 hb
      replace BK247 := kB gb247 hb
      replace BK248 := kB gb248 hb
      replace BK252 := kB gb252 hb
      replace HB := bS w hb
      clear hb hbox hg
      refine hK.out _ _ ⟨bc BK247 0, bc BK247 1, bc BK247 2, bc BK247 3, bc BK247 4, bc BK247 5, bc BK247 6, bc BK247 7, bc BK247 8, bc BK252 0, bc BK252 1, ((HB.out.cell (World.block_lt_of_cell? w _ hw253_0)).trans hw253_0), ((HB.out.cell (World.block_lt_of_cell? w _ hw253_1)).trans hw253_1), ((HB.out.cell (World.block_lt_of_cell? w _ hw253_2)).trans hw253_2), ((HB.out.cell (World.block_lt_of_cell? w _ hw253_3)).trans hw253_3), ((HB.out.cell (World.block_lt_of_cell? w _ hw253_4)).trans hw253_4)⟩ (fun hHeld => ?_)
      clear hK K
      refine norm_ (a' := ?_) ?_ ?_
      rotate_left
      ·
       show Act.put _ (some 12) _ = _
       simp only [Act.put, List.setIfInBounds_toArray, List.set_cons_zero, List.set_cons_succ, i64_w]
       rfl
      refine one_ (i := 7) (N := some 32) #[true, true, true, true, true, true, true, true, true, false] rfl rfl (one_of HT_.out (by kernel_rfl)) (by decide) (fun K hK => ?_)
      refine goesM Tryd.func82 (by kernel_rfl) rfl #[.agg #[.int .i64 a1_0, .int .i64 a1_1, .int .i64 a1_2, .int .i64 a1_3, .int .i64 a1_4, .int .i64 a1_5, .int .i64 a1_6, .int .i64 a1_7, .slice (some ad253) l1_8.length c1_8], .agg #[.int .i64 ((rd_T71 l1_8 a2).f0), .int .i64 ((rd_T71 l1_8 a2).f1), .int .i64 ((rd_T71 l1_8 a2).f2), .int .i64 ((rd_T71 l1_8 a2).f3), .int .i64 ((rd_T71 l1_8 a2).f4)], .agg #[.int .i64 t249, .int .i64 t250]] (by rfl) rfl rfl (by rfl) ?_
      with_reducible refine (course_core.calls a1_0 a1_1 a1_2 a1_3 a1_4 a1_5 a1_6 a1_7 _ _ l1_8 ((rd_T71 l1_8 a2).f0) ((rd_T71 l1_8 a2).f1) ((rd_T71 l1_8 a2).f2) ((rd_T71 l1_8 a2).f3) ((rd_T71 l1_8 a2).f4) t249 t250 t254 t255 _ ?side1 ?side2 A9.out).mono ?_
      (case side1 => exact cP (Kd.C_below HR1_8.out HB.out))
      (case side2 => exact HC1_8.out)
      rintro e w27 ⟨rfl, hb⟩
      refine ⟨_, rfl, ?_⟩
      replace BK246 := kB gb246 hb
      replace BK247 := kB gb247 hb
      replace BK248 := kB gb248 hb
      replace BK252 := kB gb252 hb
      replace BK256 := kB gb256 hb
      replace HB := bS w hb
      (try clear hb)
      refine hK.out _ _ ⟨bc BK247 0, bc BK247 1, bc BK247 2, bc BK247 3, bc BK247 4, bc BK247 5, bc BK247 6, bc BK247 7, bc BK247 8, bc BK252 0, bc BK252 1, ((HB.out.cell (World.block_lt_of_cell? w _ hw253_0)).trans hw253_0), ((HB.out.cell (World.block_lt_of_cell? w _ hw253_1)).trans hw253_1), ((HB.out.cell (World.block_lt_of_cell? w _ hw253_2)).trans hw253_2), ((HB.out.cell (World.block_lt_of_cell? w _ hw253_3)).trans hw253_3), ((HB.out.cell (World.block_lt_of_cell? w _ hw253_4)).trans hw253_4)⟩ (fun hHeld => ?_)
      clear hK K
      refine norm_ (a' := ?_) ?_ ?_
      rotate_left
      ·
       show Act.put _ (some 32) _ = _
       simp only [Act.put, List.setIfInBounds_toArray, List.set_cons_zero, List.set_cons_succ, i64_w]
       rfl
      exact norm_ (by simp only [putAll, Act.put, List.setIfInBounds_toArray, List.set_cons_zero, List.set_cons_succ]) (hCont (gb256) _ ⟨hHeld, (bk _ gb246), (bk _ gb247), (bk _ gb248), (bk _ gb252), (bk _ gb256), GW256.out, GE256.out, NB246_256.out, NB256_246.out, NB247_256.out, NB256_247.out, NB248_256.out, NB256_248.out, NB252_256.out, NB256_252.out, (bw w)⟩)
    rintro gb256 w28 ⟨hS_, h0_, h1_, h2_, h3_, h4_, h5_, h6_, h7_, h8_, h9_, h10_, h11_, h12_, h13_, h14_, h15_⟩
    have n0_ : Bk w28 gb246 (.cells #[.int .i64 a0_0, .int .i64 a0_1, .slice A0_2 l0_2.length c0_2] 24 (0, 0)) := ⟨h0_⟩
    have n1_ : Bk w28 gb247 (.cells #[.int .i64 a1_0, .int .i64 a1_1, .int .i64 a1_2, .int .i64 a1_3, .int .i64 a1_4, .int .i64 a1_5, .int .i64 a1_6, .int .i64 a1_7, .slice (some ad253) l1_8.length c1_8] 47 (0, 0)) := ⟨h1_⟩
    have n2_ : Bk w28 gb248 (.cells #[.int .i64 0, .int .i64 0] 40 (0, 0)) := ⟨h2_⟩
    have n3_ : Bk w28 gb252 (.cells #[.int .i64 t249, .int .i64 t250] 103 (0, 0)) := ⟨h3_⟩
    have n4_ : Bk w28 gb256 (.cells #[.int .i64 0, .int .i64 0] 103 (0, 0)) := ⟨h4_⟩
    have n5_ : Ge w gb256 := ⟨h5_⟩
    have n6_ : Ge w gb256 := ⟨h6_⟩
    have n7_ : Nb gb246 gb256 := ⟨h7_⟩
    have n8_ : Nb gb256 gb246 := ⟨h8_⟩
    have n9_ : Nb gb247 gb256 := ⟨h9_⟩
    have n10_ : Nb gb256 gb247 := ⟨h10_⟩
    have n11_ : Nb gb248 gb256 := ⟨h11_⟩
    have n12_ : Nb gb256 gb248 := ⟨h12_⟩
    have n13_ : Nb gb252 gb256 := ⟨h13_⟩
    have n14_ : Nb gb256 gb252 := ⟨h14_⟩
    have n15_ : Bw w w28 := ⟨h15_⟩
    clear BK246 BK247 BK248 BK252 HB h0_ h1_ h2_ h3_ h4_ h5_ h6_ h7_ h8_ h9_ h10_ h11_ h12_ h13_ h14_ h15_
    have BK246 := n0_
    have BK247 := n1_
    have BK248 := n2_
    have BK252 := n3_
    have BK256 := n4_
    have GW256 := n5_
    have GE256 := n6_
    have NB246_256 := n7_
    have NB256_246 := n8_
    have NB247_256 := n9_
    have NB256_247 := n10_
    have NB248_256 := n11_
    have NB256_248 := n12_
    have NB252_256 := n13_
    have NB256_252 := n14_
    have HB := n15_
    clear n0_ n1_ n2_ n3_ n4_ n5_ n6_ n7_ n8_ n9_ n10_ n11_ n12_ n13_ n14_ n15_
    have hHeld : w28.cell? ⟨gb247, 0, none⟩ = some (.int .i64 a1_0) ∧ w28.cell? ⟨gb247, 1, none⟩ = some (.int .i64 a1_1) ∧ w28.cell? ⟨gb247, 2, none⟩ = some (.int .i64 a1_2) ∧ w28.cell? ⟨gb247, 3, none⟩ = some (.int .i64 a1_3) ∧ w28.cell? ⟨gb247, 4, none⟩ = some (.int .i64 a1_4) ∧ w28.cell? ⟨gb247, 5, none⟩ = some (.int .i64 a1_5) ∧ w28.cell? ⟨gb247, 6, none⟩ = some (.int .i64 a1_6) ∧ w28.cell? ⟨gb247, 7, none⟩ = some (.int .i64 a1_7) ∧ w28.cell? ⟨gb247, 8, none⟩ = some (.slice (some ad253) l1_8.length c1_8) ∧ w28.cell? ⟨gb252, 0, none⟩ = some (.int .i64 t249) ∧ w28.cell? ⟨gb252, 1, none⟩ = some (.int .i64 t250) ∧ w28.cell? (ad253.add ((a2).toNat * 5)) = some (.int .i64 ((rd_T71 l1_8 a2).f0)) ∧ w28.cell? ⟨(ad253.add ((a2).toNat * 5)).block, (ad253.add ((a2).toNat * 5)).off + 1, none⟩ = some (.int .i64 ((rd_T71 l1_8 a2).f1)) ∧ w28.cell? ⟨(ad253.add ((a2).toNat * 5)).block, (ad253.add ((a2).toNat * 5)).off + 2, none⟩ = some (.int .i64 ((rd_T71 l1_8 a2).f2)) ∧ w28.cell? ⟨(ad253.add ((a2).toNat * 5)).block, (ad253.add ((a2).toNat * 5)).off + 3, none⟩ = some (.int .i64 ((rd_T71 l1_8 a2).f3)) ∧ w28.cell? ⟨(ad253.add ((a2).toNat * 5)).block, (ad253.add ((a2).toNat * 5)).off + 4, none⟩ = some (.int .i64 ((rd_T71 l1_8 a2).f4)) := hS_
    refine norm_ (a' := ?_) ?_ ?_
    rotate_left
    ·
     simp only [putAll, Act.put, List.setIfInBounds_toArray, List.set_cons_zero, List.set_cons_succ]
     rfl
    refine one_ (i := 9) (N := none) #[true, true, true, true, true, true, true, true, true, true] rfl rfl (one_of HT_.out (by kernel_rfl)) (by decide) (fun K hK => ?_)
    have hs29 : w28.cell? ⟨gb256, 0, none⟩ = some (.int .i64 0) := bc BK256 0
    have hfs29 := blk_frozen BK256.out 0
    have hns29_0 := NB246_256.out
    have hns29_1 := NB247_256.out
    have hns29_2 := NB248_256.out
    have hns29_3 := NB252_256.out
    have hms29_0 := NB256_246.out
    have hms29_1 := NB256_247.out
    have hms29_2 := NB256_248.out
    have hms29_3 := NB256_252.out
    have hs30 : w28.cell? ⟨gb256, 1, none⟩ = some (.int .i64 0) := bc BK256 1
    have hfs30 := blk_frozen BK256.out 1
    have hns30_0 := NB246_256.out
    have hns30_1 := NB247_256.out
    have hns30_2 := NB248_256.out
    have hns30_3 := NB252_256.out
    have hms30_0 := NB256_246.out
    have hms30_1 := NB256_247.out
    have hms30_2 := NB256_248.out
    have hms30_3 := NB256_252.out
    refine skip_ (w1 := ?_) (by rfl) rfl ?_ ?_
    rotate_left
    ·
     go_simp
     rfl
    refine hK.out _ _ ⟨((cell_far (p := ⟨gb256, _, none⟩) NB247_256.out _).trans (((cell_far (p := ⟨gb256, _, none⟩) NB247_256.out _).trans (hHeld.1)))), ((cell_far (p := ⟨gb256, _, none⟩) NB247_256.out _).trans (((cell_far (p := ⟨gb256, _, none⟩) NB247_256.out _).trans (hHeld.2.1)))), ((cell_far (p := ⟨gb256, _, none⟩) NB247_256.out _).trans (((cell_far (p := ⟨gb256, _, none⟩) NB247_256.out _).trans (hHeld.2.2.1)))), ((cell_far (p := ⟨gb256, _, none⟩) NB247_256.out _).trans (((cell_far (p := ⟨gb256, _, none⟩) NB247_256.out _).trans (hHeld.2.2.2.1)))), ((cell_far (p := ⟨gb256, _, none⟩) NB247_256.out _).trans (((cell_far (p := ⟨gb256, _, none⟩) NB247_256.out _).trans (hHeld.2.2.2.2.1)))), ((cell_far (p := ⟨gb256, _, none⟩) NB247_256.out _).trans (((cell_far (p := ⟨gb256, _, none⟩) NB247_256.out _).trans (hHeld.2.2.2.2.2.1)))), ((cell_far (p := ⟨gb256, _, none⟩) NB247_256.out _).trans (((cell_far (p := ⟨gb256, _, none⟩) NB247_256.out _).trans (hHeld.2.2.2.2.2.2.1)))), ((cell_far (p := ⟨gb256, _, none⟩) NB247_256.out _).trans (((cell_far (p := ⟨gb256, _, none⟩) NB247_256.out _).trans (hHeld.2.2.2.2.2.2.2.1)))), ((cell_far (p := ⟨gb256, _, none⟩) NB247_256.out _).trans (((cell_far (p := ⟨gb256, _, none⟩) NB247_256.out _).trans (hHeld.2.2.2.2.2.2.2.2.1)))), ((cell_far (p := ⟨gb256, _, none⟩) NB252_256.out _).trans (((cell_far (p := ⟨gb256, _, none⟩) NB252_256.out _).trans (hHeld.2.2.2.2.2.2.2.2.2.1)))), ((cell_far (p := ⟨gb256, _, none⟩) NB252_256.out _).trans (((cell_far (p := ⟨gb256, _, none⟩) NB252_256.out _).trans (hHeld.2.2.2.2.2.2.2.2.2.2.1)))), ((cell_far (p := ⟨gb256, _, none⟩) (by first | exact Nat.ne_of_lt (Nat.lt_of_lt_of_le (by have := World.block_lt_of_cell? _ _ hw253_0; first | rwa [add_block] at this | exact this) GW256.out) | (rw [add_block]; exact Nat.ne_of_lt (Nat.lt_of_lt_of_le (by have := World.block_lt_of_cell? _ _ hw253_0; first | rwa [add_block] at this | exact this) GW256.out)) | (show (Addr.add _ _).block ≠ _; rw [add_block]; exact Nat.ne_of_lt (Nat.lt_of_lt_of_le (by have := World.block_lt_of_cell? _ _ hw253_0; first | rwa [add_block] at this | exact this) GW256.out)) | (dsimp only; exact Nat.ne_of_lt (Nat.lt_of_lt_of_le (by have := World.block_lt_of_cell? _ _ hw253_0; first | rwa [add_block] at this | exact this) GW256.out))) _).trans (((cell_far (p := ⟨gb256, _, none⟩) (by first | exact Nat.ne_of_lt (Nat.lt_of_lt_of_le (by have := World.block_lt_of_cell? _ _ hw253_0; first | rwa [add_block] at this | exact this) GW256.out) | (rw [add_block]; exact Nat.ne_of_lt (Nat.lt_of_lt_of_le (by have := World.block_lt_of_cell? _ _ hw253_0; first | rwa [add_block] at this | exact this) GW256.out)) | (show (Addr.add _ _).block ≠ _; rw [add_block]; exact Nat.ne_of_lt (Nat.lt_of_lt_of_le (by have := World.block_lt_of_cell? _ _ hw253_0; first | rwa [add_block] at this | exact this) GW256.out)) | (dsimp only; exact Nat.ne_of_lt (Nat.lt_of_lt_of_le (by have := World.block_lt_of_cell? _ _ hw253_0; first | rwa [add_block] at this | exact this) GW256.out))) _).trans (hHeld.2.2.2.2.2.2.2.2.2.2.2.1)))), ((cell_far (p := ⟨gb256, _, none⟩) (by first | exact Nat.ne_of_lt (Nat.lt_of_lt_of_le (by have := World.block_lt_of_cell? _ _ hw253_1; first | rwa [add_block] at this | exact this) GW256.out) | (rw [add_block]; exact Nat.ne_of_lt (Nat.lt_of_lt_of_le (by have := World.block_lt_of_cell? _ _ hw253_1; first | rwa [add_block] at this | exact this) GW256.out)) | (show (Addr.add _ _).block ≠ _; rw [add_block]; exact Nat.ne_of_lt (Nat.lt_of_lt_of_le (by have := World.block_lt_of_cell? _ _ hw253_1; first | rwa [add_block] at this | exact this) GW256.out)) | (dsimp only; exact Nat.ne_of_lt (Nat.lt_of_lt_of_le (by have := World.block_lt_of_cell? _ _ hw253_1; first | rwa [add_block] at this | exact this) GW256.out))) _).trans (((cell_far (p := ⟨gb256, _, none⟩) (by first | exact Nat.ne_of_lt (Nat.lt_of_lt_of_le (by have := World.block_lt_of_cell? _ _ hw253_1; first | rwa [add_block] at this | exact this) GW256.out) | (rw [add_block]; exact Nat.ne_of_lt (Nat.lt_of_lt_of_le (by have := World.block_lt_of_cell? _ _ hw253_1; first | rwa [add_block] at this | exact this) GW256.out)) | (show (Addr.add _ _).block ≠ _; rw [add_block]; exact Nat.ne_of_lt (Nat.lt_of_lt_of_le (by have := World.block_lt_of_cell? _ _ hw253_1; first | rwa [add_block] at this | exact this) GW256.out)) | (dsimp only; exact Nat.ne_of_lt (Nat.lt_of_lt_of_le (by have := World.block_lt_of_cell? _ _ hw253_1; first | rwa [add_block] at this | exact this) GW256.out))) _).trans (hHeld.2.2.2.2.2.2.2.2.2.2.2.2.1)))), ((cell_far (p := ⟨gb256, _, none⟩) (by first | exact Nat.ne_of_lt (Nat.lt_of_lt_of_le (by have := World.block_lt_of_cell? _ _ hw253_2; first | rwa [add_block] at this | exact this) GW256.out) | (rw [add_block]; exact Nat.ne_of_lt (Nat.lt_of_lt_of_le (by have := World.block_lt_of_cell? _ _ hw253_2; first | rwa [add_block] at this | exact this) GW256.out)) | (show (Addr.add _ _).block ≠ _; rw [add_block]; exact Nat.ne_of_lt (Nat.lt_of_lt_of_le (by have := World.block_lt_of_cell? _ _ hw253_2; first | rwa [add_block] at this | exact this) GW256.out)) | (dsimp only; exact Nat.ne_of_lt (Nat.lt_of_lt_of_le (by have := World.block_lt_of_cell? _ _ hw253_2; first | rwa [add_block] at this | exact this) GW256.out))) _).trans (((cell_far (p := ⟨gb256, _, none⟩) (by first | exact Nat.ne_of_lt (Nat.lt_of_lt_of_le (by have := World.block_lt_of_cell? _ _ hw253_2; first | rwa [add_block] at this | exact this) GW256.out) | (rw [add_block]; exact Nat.ne_of_lt (Nat.lt_of_lt_of_le (by have := World.block_lt_of_cell? _ _ hw253_2; first | rwa [add_block] at this | exact this) GW256.out)) | (show (Addr.add _ _).block ≠ _; rw [add_block]; exact Nat.ne_of_lt (Nat.lt_of_lt_of_le (by have := World.block_lt_of_cell? _ _ hw253_2; first | rwa [add_block] at this | exact this) GW256.out)) | (dsimp only; exact Nat.ne_of_lt (Nat.lt_of_lt_of_le (by have := World.block_lt_of_cell? _ _ hw253_2; first | rwa [add_block] at this | exact this) GW256.out))) _).trans (hHeld.2.2.2.2.2.2.2.2.2.2.2.2.2.1)))), ((cell_far (p := ⟨gb256, _, none⟩) (by first | exact Nat.ne_of_lt (Nat.lt_of_lt_of_le (by have := World.block_lt_of_cell? _ _ hw253_3; first | rwa [add_block] at this | exact this) GW256.out) | (rw [add_block]; exact Nat.ne_of_lt (Nat.lt_of_lt_of_le (by have := World.block_lt_of_cell? _ _ hw253_3; first | rwa [add_block] at this | exact this) GW256.out)) | (show (Addr.add _ _).block ≠ _; rw [add_block]; exact Nat.ne_of_lt (Nat.lt_of_lt_of_le (by have := World.block_lt_of_cell? _ _ hw253_3; first | rwa [add_block] at this | exact this) GW256.out)) | (dsimp only; exact Nat.ne_of_lt (Nat.lt_of_lt_of_le (by have := World.block_lt_of_cell? _ _ hw253_3; first | rwa [add_block] at this | exact this) GW256.out))) _).trans (((cell_far (p := ⟨gb256, _, none⟩) (by first | exact Nat.ne_of_lt (Nat.lt_of_lt_of_le (by have := World.block_lt_of_cell? _ _ hw253_3; first | rwa [add_block] at this | exact this) GW256.out) | (rw [add_block]; exact Nat.ne_of_lt (Nat.lt_of_lt_of_le (by have := World.block_lt_of_cell? _ _ hw253_3; first | rwa [add_block] at this | exact this) GW256.out)) | (show (Addr.add _ _).block ≠ _; rw [add_block]; exact Nat.ne_of_lt (Nat.lt_of_lt_of_le (by have := World.block_lt_of_cell? _ _ hw253_3; first | rwa [add_block] at this | exact this) GW256.out)) | (dsimp only; exact Nat.ne_of_lt (Nat.lt_of_lt_of_le (by have := World.block_lt_of_cell? _ _ hw253_3; first | rwa [add_block] at this | exact this) GW256.out))) _).trans (hHeld.2.2.2.2.2.2.2.2.2.2.2.2.2.2.1)))), ((cell_far (p := ⟨gb256, _, none⟩) (by first | exact Nat.ne_of_lt (Nat.lt_of_lt_of_le (by have := World.block_lt_of_cell? _ _ hw253_4; first | rwa [add_block] at this | exact this) GW256.out) | (rw [add_block]; exact Nat.ne_of_lt (Nat.lt_of_lt_of_le (by have := World.block_lt_of_cell? _ _ hw253_4; first | rwa [add_block] at this | exact this) GW256.out)) | (show (Addr.add _ _).block ≠ _; rw [add_block]; exact Nat.ne_of_lt (Nat.lt_of_lt_of_le (by have := World.block_lt_of_cell? _ _ hw253_4; first | rwa [add_block] at this | exact this) GW256.out)) | (dsimp only; exact Nat.ne_of_lt (Nat.lt_of_lt_of_le (by have := World.block_lt_of_cell? _ _ hw253_4; first | rwa [add_block] at this | exact this) GW256.out))) _).trans (((cell_far (p := ⟨gb256, _, none⟩) (by first | exact Nat.ne_of_lt (Nat.lt_of_lt_of_le (by have := World.block_lt_of_cell? _ _ hw253_4; first | rwa [add_block] at this | exact this) GW256.out) | (rw [add_block]; exact Nat.ne_of_lt (Nat.lt_of_lt_of_le (by have := World.block_lt_of_cell? _ _ hw253_4; first | rwa [add_block] at this | exact this) GW256.out)) | (show (Addr.add _ _).block ≠ _; rw [add_block]; exact Nat.ne_of_lt (Nat.lt_of_lt_of_le (by have := World.block_lt_of_cell? _ _ hw253_4; first | rwa [add_block] at this | exact this) GW256.out)) | (dsimp only; exact Nat.ne_of_lt (Nat.lt_of_lt_of_le (by have := World.block_lt_of_cell? _ _ hw253_4; first | rwa [add_block] at this | exact this) GW256.out))) _).trans (hHeld.2.2.2.2.2.2.2.2.2.2.2.2.2.2.2))))⟩ (fun hHeld => ?_)
    clear hK K
    refine done_ (done_of HT_.out (by kernel_rfl)) ?_
    have hnb31 := NB256_246.out
    have hnc31 := NB246_256.out
    have hnb32 := NB256_247.out
    have hnc32 := NB247_256.out
    have hnb33 := NB256_248.out
    have hnc33 := NB248_256.out
    have hnb34 := NB256_252.out
    have hnc34 := NB252_256.out
    obtain ⟨hcz35_0, hcz35_1, hfz35_0, hfz35_1⟩ := cz2 BK256
    obtain ⟨hcz36_0, hcz36_1, hfz36_0, hfz36_1⟩ := cz2 BK248
    try go_wp2
    all_goals (refine bodyPost_ret (results_ct rfl _ _ gb248 40 #[.int .i64 t254, .int .i64 t255] (0, 0) _ rfl (bko gb248 (by rfl)) Tryd.underlying40 rfl (by kernel_rfl)) rfl ?_; exact ⟨by first | rfl | (simp [errW_none, errW_some] <;> rfl) | (simp [*, errW_none, errW_some] <;> rfl), bw w⟩)
   ·
    rw [if_neg c8] at H
    exact absurd H (by simp)
  ·
   rw [if_neg c7] at H
   exact absurd H (by simp)
 ·
  rw [if_neg c6] at H
  have c6b0 : (t251 == 0) = false := beq_eq_false_iff_ne.mpr c6
  have c6b1 : (t251 != 0) = true := bne_iff_ne.mpr c6
  simp only [Option.some.injEq, Prod.mk.injEq] at H
  obtain ⟨rfl, rfl, rfl⟩ := H
  go_enter Tryd.func27, Tryd.ntmps27
  go_wp2_with (first | ((with_reducible refine gate_dst (N := 4) rfl ?_); refine bxE 4 24 #[.int .i64 a0_0, .int .i64 a0_1, .slice A0_2 l0_2.length c0_2] (by rfl) (by rfl) (by first | (go_simp; done) | (go_simp; rfl)) ?_; intro gb246 hg w37 hbox hb; have BK246 := Bk.mk (hbox); have GE246 := eB w hg; replace HB := bS w hb; clear hb hbox hg) | ((with_reducible refine gate_dst (N := 5) rfl ?_); refine bxE 5 47 #[.int .i64 a1_0, .int .i64 a1_1, .int .i64 a1_2, .int .i64 a1_3, .int .i64 a1_4, .int .i64 a1_5, .int .i64 a1_6, .int .i64 a1_7, .slice A1_8 l1_8.length c1_8] (by rfl) (by rfl) (by first | (go_simp; done) | (go_simp; rfl)) ?_; intro gb247 hg w38 hbox hb; have BK247 := Bk.mk (hbox); have GE247 := eB w hg; have NB246_247 := nB gb246 hg; replace BK246 := kB gb246 hb; replace HB := bS w hb; clear hb hbox hg) | ((with_reducible refine gate_dst (N := 8) rfl ?_); refine bxE 8 40 #[.int .i64 0, .int .i64 0] (by rfl) (by rfl) (by first | (go_simp; done) | (go_simp; rfl)) ?_; intro gb248 hg w39 hbox hb; have BK248 := Bk.mk (hbox); have GE248 := eB w hg; have NB246_248 := nB gb246 hg; have NB247_248 := nB gb247 hg; replace BK246 := kB gb246 hb; replace BK247 := kB gb247 hb; replace HB := bS w hb; clear hb hbox hg; obtain ⟨hnb40, hnc40⟩ := nn NB246_247; obtain ⟨hnb41, hnc41⟩ := nn NB246_248; obtain ⟨hcz42_0, hcz42_1, hcz42_2, hfz42_0, hfz42_1, hfz42_2⟩ := cz3 BK246; obtain ⟨hnb43, hnc43⟩ := nn NB247_248; obtain ⟨hcz44_0, hcz44_1, hcz44_2, hcz44_3, hcz44_4, hcz44_5, hcz44_6, hcz44_7, hcz44_8, hfz44_0, hfz44_1, hfz44_2, hfz44_3, hfz44_4, hfz44_5, hfz44_6, hfz44_7, hfz44_8⟩ := cz9 BK247) | ((with_reducible refine gate_callee (f := 81) rfl ?_); refine goesLM (some 18) rfl rfl Tryd.func81 (by kernel_rfl) rfl #[.agg #[.int .i64 a0_0, .int .i64 a0_1, .slice A0_2 l0_2.length c0_2], .agg #[.int .i64 a1_0, .int .i64 a1_1, .int .i64 a1_2, .int .i64 a1_3, .int .i64 a1_4, .int .i64 a1_5, .int .i64 a1_6, .int .i64 a1_7, .slice A1_8 l1_8.length c1_8], .int .i64 a2, .int .i64 a3] rfl (by rfl) ?_; (with_reducible refine (course_look.calls k a0_0 a0_1 _ _ l0_2 a1_0 a1_1 a1_2 a1_3 a1_4 a1_5 a1_6 a1_7 _ _ l1_8 a2 a3 t249 t250 t251 _ ?side1 ?side2 ?side3 ?side4 A5.out).mono ?_); (case side1 => exact cP (Kd.C_below HR0_2.out HB.out)); (case side2 => exact HC0_2.out); (case side3 => exact cP (Kd.C_below HR1_8.out HB.out)); (case side4 => exact HC1_8.out); rintro e w45 ⟨rfl, hb⟩; refine ⟨_, rfl, ?_⟩; replace BK246 := kB gb246 hb; replace BK247 := kB gb247 hb; replace BK248 := kB gb248 hb; replace HB := bS w hb; (try clear hb)) | ((with_reducible refine gate_dst (N := 10) rfl ?_); refine bxE 10 103 #[.int .i64 0, .int .i64 0] (by rfl) (by rfl) (by first | (go_simp; done) | (go_simp; rfl)) ?_; intro gb252 hg w46 hbox hb; have BK252 := Bk.mk (hbox); have GE252 := eB w hg; have NB246_252 := nB gb246 hg; have NB247_252 := nB gb247 hg; have NB248_252 := nB gb248 hg; replace BK246 := kB gb246 hb; replace BK247 := kB gb247 hb; replace BK248 := kB gb248 hb; replace HB := bS w hb; clear hb hbox hg; obtain ⟨hnc47, hnb47⟩ := nn NB246_252; obtain ⟨hnc48, hnb48⟩ := nn NB247_252; obtain ⟨hnc49, hnb49⟩ := nn NB248_252; obtain ⟨hcz50_0, hcz50_1, hfz50_0, hfz50_1⟩ := cz2 BK252; obtain ⟨hcz51_0, hcz51_1, hfz51_0, hfz51_1⟩ := cz2 BK248))
  all_goals (refine bodyPost_ret (results_ct rfl _ _ gb248 40 #[.int .i64 0, .int .i64 0] (0, 0) _ rfl (bko gb248 (by rfl)) Tryd.underlying40 rfl (by kernel_rfl)) rfl ?_; exact ⟨by first | rfl | (simp [errW_none, errW_some] <;> rfl) | (simp [*, errW_none, errW_some] <;> rfl), bw w⟩)
def course_snow.f (a0_0 : Int) (a0_1 : Int) (a0_2 : Int) (a0_3 : Int) (a0_4 : Int) (a0_5 : Int) (a0_6 : Int) (a0_7 : Int) (l0_8 : List (S71)) (a1_0 : Int) (a1_1 : Int) (a1_2 : Int) (a1_3 : Int) (a1_4 : Int) (a2_0 : Int) (a2_1 : Int) : Option (Int × Int) := (course_core.f a0_0 a0_1 a0_2 a0_3 a0_4 a0_5 a0_6 a0_7 l0_8 a1_0 a1_1 a1_2 a1_3 a1_4 a2_0 a2_1).bind fun bt260 => (some (wrap64 ((wrap64 (20 * bt260.1)) + (wrap64 (a1_3 * a0_5))), wrap64 (bt260.2 + (wrap64 (a1_3 * a0_5)))))
set_option maxHeartbeats 8000000 in
set_option maxRecDepth 100000 in
theorem course_snow.calls (a0_0 : Int) (a0_1 : Int) (a0_2 : Int) (a0_3 : Int) (a0_4 : Int) (a0_5 : Int) (a0_6 : Int) (a0_7 : Int) (A0_8 : Option Addr) (c0_8 : Nat) (l0_8 : List (S71)) (a1_0 : Int) (a1_1 : Int) (a1_2 : Int) (a1_3 : Int) (a1_4 : Int) (a2_0 : Int) (a2_1 : Int) (r1 : Int) (r2 : Int) (w : World) (hr0_8 : Kd.C k71 w A0_8 l0_8.length l0_8) (hc0_8 : l0_8.length ≤ c0_8) (h : course_snow.f a0_0 a0_1 a0_2 a0_3 a0_4 a0_5 a0_6 a0_7 l0_8 a1_0 a1_1 a1_2 a1_3 a1_4 a2_0 a2_1 = some (r1, r2)) :
  Calls Tryd.prog 86 #[.agg #[.int .i64 a0_0, .int .i64 a0_1, .int .i64 a0_2, .int .i64 a0_3, .int .i64 a0_4, .int .i64 a0_5, .int .i64 a0_6, .int .i64 a0_7, .slice A0_8 l0_8.length c0_8], .agg #[.int .i64 a1_0, .int .i64 a1_1, .int .i64 a1_2, .int .i64 a1_3, .int .i64 a1_4], .agg #[.int .i64 a2_0, .int .i64 a2_1]] w fun e w' => e = .returned (.tuple #[.int .i64 r1, .int .i64 r2]) ∧ Below w.heap.size w w' := by
 have hu47 := Tryd.underlying47
 have hu71 := Tryd.underlying71
 have hu103 := Tryd.underlying103
 have HR0_8 := Aside0.mk (hr0_8)
 have HC0_8 := Aside0.mk (hc0_8)
 clear hr0_8 hc0_8
 have HB := Bw.mk (Below.refl w.heap.size w)
 have H : ((course_core.f a0_0 a0_1 a0_2 a0_3 a0_4 a0_5 a0_6 a0_7 l0_8 a1_0 a1_1 a1_2 a1_3 a1_4 a2_0 a2_1).bind fun bt260 => (some (wrap64 ((wrap64 (20 * bt260.1)) + (wrap64 (a1_3 * a0_5))), wrap64 (bt260.2 + (wrap64 (a1_3 * a0_5)))))) = some (r1, r2) := h
 clear h
 replace H := Option.bind_eq_some_iff.mp H
 obtain ⟨⟨t260, t261⟩, A40, H⟩ := H
 have A4 := Aside0.mk (A40)
 clear A40
 simp only [Option.some.injEq, Prod.mk.injEq] at H
 obtain ⟨rfl, rfl⟩ := H
 go_enter Tryd.func86, Tryd.ntmps86
 go_wp2_with (first | ((with_reducible refine gate_dst (N := 3) rfl ?_); refine bxE 3 47 #[.int .i64 a0_0, .int .i64 a0_1, .int .i64 a0_2, .int .i64 a0_3, .int .i64 a0_4, .int .i64 a0_5, .int .i64 a0_6, .int .i64 a0_7, .slice A0_8 l0_8.length c0_8] (by rfl) (by rfl) (by first | (go_simp; done) | (go_simp; rfl)) ?_; intro gb257 hg w5 hbox hb; have BK257 := Bk.mk (hbox); have GE257 := eB w hg; replace HB := bS w hb; clear hb hbox hg) | ((with_reducible refine gate_dst (N := 4) rfl ?_); refine bxE 4 71 #[.int .i64 a1_0, .int .i64 a1_1, .int .i64 a1_2, .int .i64 a1_3, .int .i64 a1_4] (by rfl) (by rfl) (by first | (go_simp; done) | (go_simp; rfl)) ?_; intro gb258 hg w6 hbox hb; have BK258 := Bk.mk (hbox); have GE258 := eB w hg; replace BK257 := kB gb257 hb; replace HB := bS w hb; clear hb hbox hg) | ((with_reducible refine gate_dst (N := 5) rfl ?_); refine bxE 5 103 #[.int .i64 a2_0, .int .i64 a2_1] (by rfl) (by rfl) (by first | (go_simp; done) | (go_simp; rfl)) ?_; intro gb259 hg w7 hbox hb; have BK259 := Bk.mk (hbox); have GE259 := eB w hg; replace BK257 := kB gb257 hb; replace BK258 := kB gb258 hb; replace HB := bS w hb; clear hb hbox hg; obtain ⟨hcz10_0, hcz10_1, hcz10_2, hcz10_3, hcz10_4, hcz10_5, hcz10_6, hcz10_7, hcz10_8, hfz10_0, hfz10_1, hfz10_2, hfz10_3, hfz10_4, hfz10_5, hfz10_6, hfz10_7, hfz10_8⟩ := cz9 BK257; obtain ⟨hcz12_0, hcz12_1, hcz12_2, hcz12_3, hcz12_4, hfz12_0, hfz12_1, hfz12_2, hfz12_3, hfz12_4⟩ := cz5 BK258; obtain ⟨hcz13_0, hcz13_1, hfz13_0, hfz13_1⟩ := cz2 BK259) | (go_at_call 82; (with_reducible refine (course_core.calls a0_0 a0_1 a0_2 a0_3 a0_4 a0_5 a0_6 a0_7 _ _ l0_8 a1_0 a1_1 a1_2 a1_3 a1_4 a2_0 a2_1 t260 t261 _ ?side1 ?side2 A4.out).mono ?_); (case side1 => exact cP (Kd.C_below HR0_8.out HB.out)); (case side2 => exact HC0_8.out); rintro e w14 ⟨rfl, hb⟩; replace BK257 := kB gb257 hb; replace BK258 := kB gb258 hb; replace BK259 := kB gb259 hb; replace HB := bS w hb; (try clear hb)) | ((with_reducible refine gate_dst (N := 8) rfl ?_); refine bxE 8 103 #[.int .i64 0, .int .i64 0] (by rfl) (by rfl) (by first | (go_simp; done) | (go_simp; rfl)) ?_; intro gb262 hg w15 hbox hb; have BK262 := Bk.mk (hbox); have GE262 := eB w hg; replace BK257 := kB gb257 hb; replace BK258 := kB gb258 hb; replace BK259 := kB gb259 hb; replace HB := bS w hb; clear hb hbox hg; obtain ⟨hcz19_0, hcz19_1, hfz19_0, hfz19_1⟩ := cz2 BK262; obtain ⟨hcz20_0, hcz20_1, hcz20_2, hcz20_3, hcz20_4, hfz20_0, hfz20_1, hfz20_2, hfz20_3, hfz20_4⟩ := cz5 BK258; obtain ⟨hcz21_0, hcz21_1, hcz21_2, hcz21_3, hcz21_4, hcz21_5, hcz21_6, hcz21_7, hcz21_8, hfz21_0, hfz21_1, hfz21_2, hfz21_3, hfz21_4, hfz21_5, hfz21_6, hfz21_7, hfz21_8⟩ := cz9 BK257))
 repeat (go_quiet (first | ((with_reducible refine gate_dst (N := 3) rfl ?_); refine bxE 3 47 #[.int .i64 a0_0, .int .i64 a0_1, .int .i64 a0_2, .int .i64 a0_3, .int .i64 a0_4, .int .i64 a0_5, .int .i64 a0_6, .int .i64 a0_7, .slice A0_8 l0_8.length c0_8] (by rfl) (by rfl) (by first | (go_simp; done) | (go_simp; rfl)) ?_; intro gb257 hg w5 hbox hb; have BK257 := Bk.mk (hbox); have GE257 := eB w hg; replace HB := bS w hb; clear hb hbox hg) | ((with_reducible refine gate_dst (N := 4) rfl ?_); refine bxE 4 71 #[.int .i64 a1_0, .int .i64 a1_1, .int .i64 a1_2, .int .i64 a1_3, .int .i64 a1_4] (by rfl) (by rfl) (by first | (go_simp; done) | (go_simp; rfl)) ?_; intro gb258 hg w6 hbox hb; have BK258 := Bk.mk (hbox); have GE258 := eB w hg; replace BK257 := kB gb257 hb; replace HB := bS w hb; clear hb hbox hg) | ((with_reducible refine gate_dst (N := 5) rfl ?_); refine bxE 5 103 #[.int .i64 a2_0, .int .i64 a2_1] (by rfl) (by rfl) (by first | (go_simp; done) | (go_simp; rfl)) ?_; intro gb259 hg w7 hbox hb; have BK259 := Bk.mk (hbox); have GE259 := eB w hg; replace BK257 := kB gb257 hb; replace BK258 := kB gb258 hb; replace HB := bS w hb; clear hb hbox hg; obtain ⟨hcz10_0, hcz10_1, hcz10_2, hcz10_3, hcz10_4, hcz10_5, hcz10_6, hcz10_7, hcz10_8, hfz10_0, hfz10_1, hfz10_2, hfz10_3, hfz10_4, hfz10_5, hfz10_6, hfz10_7, hfz10_8⟩ := cz9 BK257; obtain ⟨hcz12_0, hcz12_1, hcz12_2, hcz12_3, hcz12_4, hfz12_0, hfz12_1, hfz12_2, hfz12_3, hfz12_4⟩ := cz5 BK258; obtain ⟨hcz13_0, hcz13_1, hfz13_0, hfz13_1⟩ := cz2 BK259) | (go_at_call 82; (with_reducible refine (course_core.calls a0_0 a0_1 a0_2 a0_3 a0_4 a0_5 a0_6 a0_7 _ _ l0_8 a1_0 a1_1 a1_2 a1_3 a1_4 a2_0 a2_1 t260 t261 _ ?side1 ?side2 A4.out).mono ?_); (case side1 => exact cP (Kd.C_below HR0_8.out HB.out)); (case side2 => exact HC0_8.out); rintro e w14 ⟨rfl, hb⟩; replace BK257 := kB gb257 hb; replace BK258 := kB gb258 hb; replace BK259 := kB gb259 hb; replace HB := bS w hb; (try clear hb)) | ((with_reducible refine gate_dst (N := 8) rfl ?_); refine bxE 8 103 #[.int .i64 0, .int .i64 0] (by rfl) (by rfl) (by first | (go_simp; done) | (go_simp; rfl)) ?_; intro gb262 hg w15 hbox hb; have BK262 := Bk.mk (hbox); have GE262 := eB w hg; replace BK257 := kB gb257 hb; replace BK258 := kB gb258 hb; replace BK259 := kB gb259 hb; replace HB := bS w hb; clear hb hbox hg; obtain ⟨hcz19_0, hcz19_1, hfz19_0, hfz19_1⟩ := cz2 BK262; obtain ⟨hcz20_0, hcz20_1, hcz20_2, hcz20_3, hcz20_4, hfz20_0, hfz20_1, hfz20_2, hfz20_3, hfz20_4⟩ := cz5 BK258; obtain ⟨hcz21_0, hcz21_1, hcz21_2, hcz21_3, hcz21_4, hcz21_5, hcz21_6, hcz21_7, hcz21_8, hfz21_0, hfz21_1, hfz21_2, hfz21_3, hfz21_4, hfz21_5, hfz21_6, hfz21_7, hfz21_8⟩ := cz9 BK257)); try go_wp2_with (first | ((with_reducible refine gate_dst (N := 3) rfl ?_); refine bxE 3 47 #[.int .i64 a0_0, .int .i64 a0_1, .int .i64 a0_2, .int .i64 a0_3, .int .i64 a0_4, .int .i64 a0_5, .int .i64 a0_6, .int .i64 a0_7, .slice A0_8 l0_8.length c0_8] (by rfl) (by rfl) (by first | (go_simp; done) | (go_simp; rfl)) ?_; intro gb257 hg w5 hbox hb; have BK257 := Bk.mk (hbox); have GE257 := eB w hg; replace HB := bS w hb; clear hb hbox hg) | ((with_reducible refine gate_dst (N := 4) rfl ?_); refine bxE 4 71 #[.int .i64 a1_0, .int .i64 a1_1, .int .i64 a1_2, .int .i64 a1_3, .int .i64 a1_4] (by rfl) (by rfl) (by first | (go_simp; done) | (go_simp; rfl)) ?_; intro gb258 hg w6 hbox hb; have BK258 := Bk.mk (hbox); have GE258 := eB w hg; replace BK257 := kB gb257 hb; replace HB := bS w hb; clear hb hbox hg) | ((with_reducible refine gate_dst (N := 5) rfl ?_); refine bxE 5 103 #[.int .i64 a2_0, .int .i64 a2_1] (by rfl) (by rfl) (by first | (go_simp; done) | (go_simp; rfl)) ?_; intro gb259 hg w7 hbox hb; have BK259 := Bk.mk (hbox); have GE259 := eB w hg; replace BK257 := kB gb257 hb; replace BK258 := kB gb258 hb; replace HB := bS w hb; clear hb hbox hg; obtain ⟨hcz10_0, hcz10_1, hcz10_2, hcz10_3, hcz10_4, hcz10_5, hcz10_6, hcz10_7, hcz10_8, hfz10_0, hfz10_1, hfz10_2, hfz10_3, hfz10_4, hfz10_5, hfz10_6, hfz10_7, hfz10_8⟩ := cz9 BK257; obtain ⟨hcz12_0, hcz12_1, hcz12_2, hcz12_3, hcz12_4, hfz12_0, hfz12_1, hfz12_2, hfz12_3, hfz12_4⟩ := cz5 BK258; obtain ⟨hcz13_0, hcz13_1, hfz13_0, hfz13_1⟩ := cz2 BK259) | (go_at_call 82; (with_reducible refine (course_core.calls a0_0 a0_1 a0_2 a0_3 a0_4 a0_5 a0_6 a0_7 _ _ l0_8 a1_0 a1_1 a1_2 a1_3 a1_4 a2_0 a2_1 t260 t261 _ ?side1 ?side2 A4.out).mono ?_); (case side1 => exact cP (Kd.C_below HR0_8.out HB.out)); (case side2 => exact HC0_8.out); rintro e w14 ⟨rfl, hb⟩; replace BK257 := kB gb257 hb; replace BK258 := kB gb258 hb; replace BK259 := kB gb259 hb; replace HB := bS w hb; (try clear hb)) | ((with_reducible refine gate_dst (N := 8) rfl ?_); refine bxE 8 103 #[.int .i64 0, .int .i64 0] (by rfl) (by rfl) (by first | (go_simp; done) | (go_simp; rfl)) ?_; intro gb262 hg w15 hbox hb; have BK262 := Bk.mk (hbox); have GE262 := eB w hg; replace BK257 := kB gb257 hb; replace BK258 := kB gb258 hb; replace BK259 := kB gb259 hb; replace HB := bS w hb; clear hb hbox hg; obtain ⟨hcz19_0, hcz19_1, hfz19_0, hfz19_1⟩ := cz2 BK262; obtain ⟨hcz20_0, hcz20_1, hcz20_2, hcz20_3, hcz20_4, hfz20_0, hfz20_1, hfz20_2, hfz20_3, hfz20_4⟩ := cz5 BK258; obtain ⟨hcz21_0, hcz21_1, hcz21_2, hcz21_3, hcz21_4, hcz21_5, hcz21_6, hcz21_7, hcz21_8, hfz21_0, hfz21_1, hfz21_2, hfz21_3, hfz21_4, hfz21_5, hfz21_6, hfz21_7, hfz21_8⟩ := cz9 BK257)))
 go_ret2
 exact ⟨by first | rfl | (simp [errW_none, errW_some] <;> rfl) | (simp [*, errW_none, errW_some] <;> rfl), bw w⟩
def course_up.f (a0 : Int) (a1 : Int) : Option (Int) := if a1 = 0 then (none) else (some (wrap64 (Int.tdiv (wrap64 ((wrap64 (a0 + a1)) - 1)) a1)))
set_option maxHeartbeats 8000000 in
set_option maxRecDepth 100000 in
theorem course_up.calls (a0 : Int) (a1 : Int) (r : Int) (w : World) (h : course_up.f a0 a1 = some r) :
  Calls Tryd.prog 87 #[.int .i64 a0, .int .i64 a1] w fun e w' => e = .returned (.int .i64 r) ∧ Drawn0 w w' := by
 have H : (if a1 = 0 then (none) else (some (wrap64 (Int.tdiv (wrap64 ((wrap64 (a0 + a1)) - 1)) a1)))) = some r := h
 clear h
 by_cases c3 : a1 = 0
 ·
  rw [if_pos c3] at H
  exact absurd H (by simp)
 ·
  rw [if_neg c3] at H
  have c3b0 : (a1 == 0) = false := beq_eq_false_iff_ne.mpr c3
  have c3b1 : (a1 != 0) = true := bne_iff_ne.mpr c3
  obtain rfl := Option.some.inj H
  go_enter Tryd.func87, Tryd.ntmps87
  go_wp2
  go_ret
  exact ⟨by first | rfl | (simp; done) | (simp [*]; done), by repeat (first | exact Drawn0.refl _ | apply Drawn0.step)⟩
def course_Water.f (k : Nat) (a0_0 : Int) (a0_1 : Int) (l0_2 : List (S26)) (a1_0 : Int) (a1_1 : Int) (a1_2 : Int) (a1_3 : Int) (a1_4 : Int) (a1_5 : Int) (a1_6 : Int) (a1_7 : Int) (l1_8 : List (S71)) (a2 : Int) (a3 : Int) : Option (Int × Int × Int) := (course_look.f k a0_0 a0_1 l0_2 a1_0 a1_1 a1_2 a1_3 a1_4 a1_5 a1_6 a1_7 l1_8 a2 a3).bind fun bt266 => (if bt266.2.2 = 0 then (if 0 ≤ a2 then (if a2 < (l1_8.length : Int) then ((course_snow.f a1_0 a1_1 a1_2 a1_3 a1_4 a1_5 a1_6 a1_7 l1_8 ((rd_T71 l1_8 a2).f0) ((rd_T71 l1_8 a2).f1) ((rd_T71 l1_8 a2).f2) ((rd_T71 l1_8 a2).f3) ((rd_T71 l1_8 a2).f4) bt266.1 bt266.2.1).bind fun bt271 => (if (wrap64 (20 * a1_5)) = 0 then (none) else ((course_up.f bt271.2 a1_5).bind fun t273 => (some (wrap64 (Int.tdiv bt271.1 (wrap64 (20 * a1_5))), t273, 0))))) else (none)) else (none)) else (some (0, 0, bt266.2.2)))
theorem course_Water.mono : ∀ a0 a1 a2 a3 a4 a5 a6 a7 a8 a9 a10 a11 a12 a13 k, LeO (course_Water.f k a0 a1 a2 a3 a4 a5 a6 a7 a8 a9 a10 a11 a12 a13) (course_Water.f (k + 1) a0 a1 a2 a3 a4 a5 a6 a7 a8 a9 a10 a11 a12 a13) := by
 intro a0 a1 a2 a3 a4 a5 a6 a7 a8 a9 a10 a11 a12 a13 k
 unfold course_Water.f
 repeat' first
   | (with_reducible exact course_look.mono _ _ _ _ _ _ _ _ _ _ _ _ _ _ _)
   | (with_reducible exact LeO.refl _)
   | (with_reducible exact LeO.none _)
   | (with_reducible refine LeO.ite ?_ ?_)
   | (with_reducible refine LeO.bind ?_ (fun _ => ?_))
   | exact course_look.mono _ _ _ _ _ _ _ _ _ _ _ _ _ _ _
   | exact LeO.none _
   | refine LeO.ite ?_ ?_
   | refine LeO.bind ?_ (fun _ => ?_)
def course_Water.T4 : Bool × List (List Nat × List Nat) := (true, [([], []), ([], []), ([1], [1]), ([], []), ([2, 3], [2, 3]), ([4], [4]), ([], []), ([0, 5, 6], [0, 5, 6]), ([7], [7]), ([8], [8]), ([8], [8]), ([9, 7, 0, 1, 2, 3, 4, 5, 6, 7, 8, 9], [9]), ([10, 11, 0, 1, 2, 3, 4, 5, 6, 7, 8, 9, 10, 11], [10])])
def course_Water.B4 : List Nat := [0, 0, 2, 0, 14, 30, 0, 127, 255, 511, 511, 1023, 4095]
theorem course_Water.tab4 : rtab .any (opsOf Tryd.f29 4) = course_Water.T4 := by kernel_rfl
theorem course_Water.bits4 : waitsOk course_Water.T4.2 course_Water.B4 = true := by kernel_rfl
def course_Water.T5 : Bool × List (List Nat × List Nat) := (true, [([], []), ([], []), ([1], [1]), ([2], [2]), ([0, 3], [0, 3]), ([], []), ([], []), ([6], [6]), ([5, 7], [5, 7]), ([4, 8], [4, 8]), ([9, 8, 0, 1, 2, 3, 4, 5, 6, 7, 8, 9], [9]), ([10, 0, 1, 2, 3, 4, 5, 6, 7, 8, 9, 10], [])])
def course_Water.B5 : List Nat := [0, 0, 2, 6, 15, 0, 0, 64, 224, 511, 1023, 2047]
theorem course_Water.tab5 : rtab .any (opsOf Tryd.f29 5) = course_Water.T5 := by kernel_rfl
theorem course_Water.bits5 : waitsOk course_Water.T5.2 course_Water.B5 = true := by kernel_rfl
set_option maxHeartbeats 8000000 in
set_option maxRecDepth 100000 in
theorem course_Water.calls (k : Nat) (a0_0 : Int) (a0_1 : Int) (A0_2 : Option Addr) (c0_2 : Nat) (l0_2 : List (S26)) (a1_0 : Int) (a1_1 : Int) (a1_2 : Int) (a1_3 : Int) (a1_4 : Int) (a1_5 : Int) (a1_6 : Int) (a1_7 : Int) (A1_8 : Option Addr) (c1_8 : Nat) (l1_8 : List (S71)) (a2 : Int) (a3 : Int) (r1 : Int) (r2 : Int) (r3 : Int) (w : World) (hr0_2 : Kd.C k26 w A0_2 l0_2.length l0_2) (hc0_2 : l0_2.length ≤ c0_2) (hr1_8 : Kd.C k71 w A1_8 l1_8.length l1_8) (hc1_8 : l1_8.length ≤ c1_8) (h : course_Water.f k a0_0 a0_1 l0_2 a1_0 a1_1 a1_2 a1_3 a1_4 a1_5 a1_6 a1_7 l1_8 a2 a3 = some (r1, r2, r3)) :
  Calls Tryd.prog 29 #[.agg #[.int .i64 a0_0, .int .i64 a0_1, .slice A0_2 l0_2.length c0_2], .agg #[.int .i64 a1_0, .int .i64 a1_1, .int .i64 a1_2, .int .i64 a1_3, .int .i64 a1_4, .int .i64 a1_5, .int .i64 a1_6, .int .i64 a1_7, .slice A1_8 l1_8.length c1_8], .int .i64 a2, .int .i64 a3] w fun e w' => e = .returned (.tuple #[.agg #[.int .i64 r1, .int .i64 r2], .int .i64 r3]) ∧ Below w.heap.size w w' := by
 have hu24 := Tryd.underlying24
 have hu47 := Tryd.underlying47
 have hu40 := Tryd.underlying40
 have hu103 := Tryd.underlying103
 have hu71 := Tryd.underlying71
 have HR0_2 := Aside0.mk (hr0_2)
 have HC0_2 := Aside0.mk (hc0_2)
 clear hr0_2 hc0_2
 have HR1_8 := Aside0.mk (hr1_8)
 have HC1_8 := Aside0.mk (hc1_8)
 clear hr1_8 hc1_8
 have HB := Bw.mk (Below.refl w.heap.size w)
 have H : ((course_look.f k a0_0 a0_1 l0_2 a1_0 a1_1 a1_2 a1_3 a1_4 a1_5 a1_6 a1_7 l1_8 a2 a3).bind fun bt266 => (if bt266.2.2 = 0 then (if 0 ≤ a2 then (if a2 < (l1_8.length : Int) then ((course_snow.f a1_0 a1_1 a1_2 a1_3 a1_4 a1_5 a1_6 a1_7 l1_8 ((rd_T71 l1_8 a2).f0) ((rd_T71 l1_8 a2).f1) ((rd_T71 l1_8 a2).f2) ((rd_T71 l1_8 a2).f3) ((rd_T71 l1_8 a2).f4) bt266.1 bt266.2.1).bind fun bt271 => (if (wrap64 (20 * a1_5)) = 0 then (none) else ((course_up.f bt271.2 a1_5).bind fun t273 => (some (wrap64 (Int.tdiv bt271.1 (wrap64 (20 * a1_5))), t273, 0))))) else (none)) else (none)) else (some (0, 0, bt266.2.2)))) = some (r1, r2, r3) := h
 clear h
 replace H := Option.bind_eq_some_iff.mp H
 obtain ⟨⟨t266, t267, t268⟩, A50, H⟩ := H
 have A5 := Aside0.mk (A50)
 clear A50
 by_cases c6 : t268 = 0
 ·
  rw [if_pos c6] at H
  have c6b0 : (t268 == 0) = true := beq_iff_eq.mpr c6
  have c6b1 : (t268 != 0) = false := bne_eq_false_iff_eq.mpr c6
  clear c6
  by_cases c7 : 0 ≤ a2
  ·
   rw [if_pos c7] at H
   have c7b0 : decide (0 ≤ a2) = true := decide_eq_true c7
   clear c7
   by_cases c8 : a2 < (l1_8.length : Int)
   ·
    rw [if_pos c8] at H
    have c8b0 : decide (a2 < (l1_8.length : Int)) = true := decide_eq_true c8
    clear c8
    replace H := Option.bind_eq_some_iff.mp H
    obtain ⟨⟨t271, t272⟩, A90, H⟩ := H
    have A9 := Aside0.mk (A90)
    clear A90
    by_cases c10 : (wrap64 (20 * a1_5)) = 0
    ·
     rw [if_pos c10] at H
     exact absurd H (by simp)
    ·
     rw [if_neg c10] at H
     have c10b0 : ((wrap64 (20 * a1_5)) == 0) = false := beq_eq_false_iff_ne.mpr c10
     have c10b1 : ((wrap64 (20 * a1_5)) != 0) = true := bne_iff_ne.mpr c10
     replace H := Option.bind_eq_some_iff.mp H
     obtain ⟨t273, A110, H⟩ := H
     have A11 := Aside0.mk (A110)
     clear A110
     simp only [Option.some.injEq, Prod.mk.injEq] at H
     obtain ⟨rfl, rfl, rfl⟩ := H
     go_enter Tryd.func29, Tryd.ntmps29
     try go_wp2_with (first | ((with_reducible refine gate_dst (N := 4) rfl ?_); refine bxE 4 24 #[.int .i64 a0_0, .int .i64 a0_1, .slice A0_2 l0_2.length c0_2] (by rfl) (by rfl) (by first | (go_simp; done) | (go_simp; rfl)) ?_; intro gb263 hg w12 hbox hb; have BK263 := Bk.mk (hbox); have GE263 := eB w hg; replace HB := bS w hb; clear hb hbox hg) | ((with_reducible refine gate_dst (N := 5) rfl ?_); refine bxE 5 47 #[.int .i64 a1_0, .int .i64 a1_1, .int .i64 a1_2, .int .i64 a1_3, .int .i64 a1_4, .int .i64 a1_5, .int .i64 a1_6, .int .i64 a1_7, .slice A1_8 l1_8.length c1_8] (by rfl) (by rfl) (by first | (go_simp; done) | (go_simp; rfl)) ?_; intro gb264 hg w13 hbox hb; have BK264 := Bk.mk (hbox); have GE264 := eB w hg; have NB263_264 := nB gb263 hg; replace BK263 := kB gb263 hb; replace HB := bS w hb; clear hb hbox hg) | ((with_reducible refine gate_dst (N := 8) rfl ?_); refine bxE 8 40 #[.int .i64 0, .int .i64 0] (by rfl) (by rfl) (by first | (go_simp; done) | (go_simp; rfl)) ?_; intro gb265 hg w14 hbox hb; have BK265 := Bk.mk (hbox); have GE265 := eB w hg; have NB263_265 := nB gb263 hg; have NB264_265 := nB gb264 hg; replace BK263 := kB gb263 hb; replace BK264 := kB gb264 hb; replace HB := bS w hb; clear hb hbox hg; obtain ⟨hnb15, hnc15⟩ := nn NB263_264; obtain ⟨hnb16, hnc16⟩ := nn NB263_265; obtain ⟨hcz17_0, hcz17_1, hcz17_2, hfz17_0, hfz17_1, hfz17_2⟩ := cz3 BK263; obtain ⟨hnb18, hnc18⟩ := nn NB264_265; obtain ⟨hcz19_0, hcz19_1, hcz19_2, hcz19_3, hcz19_4, hcz19_5, hcz19_6, hcz19_7, hcz19_8, hfz19_0, hfz19_1, hfz19_2, hfz19_3, hfz19_4, hfz19_5, hfz19_6, hfz19_7, hfz19_8⟩ := cz9 BK264) | ((with_reducible refine gate_callee (f := 81) rfl ?_); refine goesLM (some 19) rfl rfl Tryd.func81 (by kernel_rfl) rfl #[.agg #[.int .i64 a0_0, .int .i64 a0_1, .slice A0_2 l0_2.length c0_2], .agg #[.int .i64 a1_0, .int .i64 a1_1, .int .i64 a1_2, .int .i64 a1_3, .int .i64 a1_4, .int .i64 a1_5, .int .i64 a1_6, .int .i64 a1_7, .slice A1_8 l1_8.length c1_8], .int .i64 a2, .int .i64 a3] rfl (by rfl) ?_; (with_reducible refine (course_look.calls k a0_0 a0_1 _ _ l0_2 a1_0 a1_1 a1_2 a1_3 a1_4 a1_5 a1_6 a1_7 _ _ l1_8 a2 a3 t266 t267 t268 _ ?side1 ?side2 ?side3 ?side4 A5.out).mono ?_); (case side1 => exact cP (Kd.C_below HR0_2.out HB.out)); (case side2 => exact HC0_2.out); (case side3 => exact cP (Kd.C_below HR1_8.out HB.out)); (case side4 => exact HC1_8.out); rintro e w20 ⟨rfl, hb⟩; refine ⟨_, rfl, ?_⟩; replace BK263 := kB gb263 hb; replace BK264 := kB gb264 hb; replace BK265 := kB gb265 hb; replace HB := bS w hb; (try clear hb)) | ((with_reducible refine gate_dst (N := 10) rfl ?_); refine bxE 10 103 #[.int .i64 0, .int .i64 0] (by rfl) (by rfl) (by first | (go_simp; done) | (go_simp; rfl)) ?_; intro gb269 hg w21 hbox hb; have BK269 := Bk.mk (hbox); have GE269 := eB w hg; have NB263_269 := nB gb263 hg; have NB264_269 := nB gb264 hg; have NB265_269 := nB gb265 hg; replace BK263 := kB gb263 hb; replace BK264 := kB gb264 hb; replace BK265 := kB gb265 hb; replace HB := bS w hb; clear hb hbox hg; obtain ⟨hnc22, hnb22⟩ := nn NB263_269; obtain ⟨hnc23, hnb23⟩ := nn NB264_269; obtain ⟨hnc24, hnb24⟩ := nn NB265_269; obtain ⟨hcz25_0, hcz25_1, hfz25_0, hfz25_1⟩ := cz2 BK269))
     have n0_ : Bk ((w21.setCell ⟨gb269, 0, none⟩ (.int .i64 t266)).setCell ⟨gb269, 1, none⟩ (.int .i64 t267)) gb263 (.cells #[.int .i64 a0_0, .int .i64 a0_1, .slice A0_2 l0_2.length c0_2] 24 (0, 0)) := ⟨bko gb263 (by rfl)⟩
     have n1_ : Bk ((w21.setCell ⟨gb269, 0, none⟩ (.int .i64 t266)).setCell ⟨gb269, 1, none⟩ (.int .i64 t267)) gb264 (.cells #[.int .i64 a1_0, .int .i64 a1_1, .int .i64 a1_2, .int .i64 a1_3, .int .i64 a1_4, .int .i64 a1_5, .int .i64 a1_6, .int .i64 a1_7, .slice A1_8 l1_8.length c1_8] 47 (0, 0)) := ⟨bko gb264 (by rfl)⟩
     have n2_ : Bk ((w21.setCell ⟨gb269, 0, none⟩ (.int .i64 t266)).setCell ⟨gb269, 1, none⟩ (.int .i64 t267)) gb265 (.cells #[.int .i64 0, .int .i64 0] 40 (0, 0)) := ⟨bko gb265 (by rfl)⟩
     have n3_ : Bk ((w21.setCell ⟨gb269, 0, none⟩ (.int .i64 t266)).setCell ⟨gb269, 1, none⟩ (.int .i64 t267)) gb269 (.cells #[.int .i64 t266, .int .i64 t267] 103 (0, 0)) := ⟨bko gb269 (by rfl)⟩
     have n4_ : Bw w ((w21.setCell ⟨gb269, 0, none⟩ (.int .i64 t266)).setCell ⟨gb269, 1, none⟩ (.int .i64 t267)) := inferInstance
     (try clear BK263)
     (try clear BK264)
     (try clear BK265)
     (try clear BK269)
     (try clear HB)
     generalize ((w21.setCell ⟨gb269, 0, none⟩ (.int .i64 t266)).setCell ⟨gb269, 1, none⟩ (.int .i64 t267)) = w26 at n0_ n1_ n2_ n3_ n4_ ⊢
     have BK263 := n0_
     have BK264 := n1_
     have BK265 := n2_
     have BK269 := n3_
     have HB := n4_
     clear n0_ n1_ n2_ n3_ n4_
     have n0_ := Bk.mk (blk_drew BK263.out)
     have n1_ := Bk.mk (blk_drew BK264.out)
     have n2_ := Bk.mk (blk_drew BK265.out)
     have n3_ := Bk.mk (blk_drew BK269.out)
     have n4_ := Bw.mk (below_drew1 HB.out)
     clear BK263 BK264 BK265 BK269 HB
     have BK263 := n0_
     have BK264 := n1_
     have BK265 := n2_
     have BK269 := n3_
     have HB := n4_
     clear n0_ n1_ n2_ n3_ n4_
     have p270 : 0 ≤ (a2 : Int) := of_decide_eq_true (by first | (with_reducible assumption) | assumption)
     have q270 : a2 < (l1_8.length : Int) := of_decide_eq_true (by first | (with_reducible assumption) | assumption)
     obtain ⟨ad270, e270, hx270_0, hx270_1, hx270_2, hx270_3, hx270_4⟩ := at_T71 HR1_8.out a2 p270 q270
     have hw270_4 := hx270_4
     have hw270_3 := hx270_3
     have hw270_2 := hx270_2
     have hw270_1 := hx270_1
     have hw270_0 := hx270_0
     cases e270
     replace hx270_0 := cB HB hx270_0
     replace hx270_1 := cB HB hx270_1
     replace hx270_2 := cB HB hx270_2
     replace hx270_3 := cB HB hx270_3
     replace hx270_4 := cB HB hx270_4
     replace p270 := eq_true p270
     replace q270 := eq_true q270
     refine start_ (n := 13) (S := fun w' => w'.cell? ⟨gb264, 0, none⟩ = some (.int .i64 a1_0) ∧ w'.cell? ⟨gb264, 1, none⟩ = some (.int .i64 a1_1) ∧ w'.cell? ⟨gb264, 2, none⟩ = some (.int .i64 a1_2) ∧ w'.cell? ⟨gb264, 3, none⟩ = some (.int .i64 a1_3) ∧ w'.cell? ⟨gb264, 4, none⟩ = some (.int .i64 a1_4) ∧ w'.cell? ⟨gb264, 5, none⟩ = some (.int .i64 a1_5) ∧ w'.cell? ⟨gb264, 6, none⟩ = some (.int .i64 a1_6) ∧ w'.cell? ⟨gb264, 7, none⟩ = some (.int .i64 a1_7) ∧ w'.cell? ⟨gb264, 8, none⟩ = some (.slice (some ad270) l1_8.length c1_8) ∧ w'.cell? ⟨gb269, 0, none⟩ = some (.int .i64 t266) ∧ w'.cell? ⟨gb269, 1, none⟩ = some (.int .i64 t267) ∧ w'.cell? (ad270.add ((a2).toNat * 5)) = some (.int .i64 ((rd_T71 l1_8 a2).f0)) ∧ w'.cell? ⟨(ad270.add ((a2).toNat * 5)).block, (ad270.add ((a2).toNat * 5)).off + 1, none⟩ = some (.int .i64 ((rd_T71 l1_8 a2).f1)) ∧ w'.cell? ⟨(ad270.add ((a2).toNat * 5)).block, (ad270.add ((a2).toNat * 5)).off + 2, none⟩ = some (.int .i64 ((rd_T71 l1_8 a2).f2)) ∧ w'.cell? ⟨(ad270.add ((a2).toNat * 5)).block, (ad270.add ((a2).toNat * 5)).off + 3, none⟩ = some (.int .i64 ((rd_T71 l1_8 a2).f3)) ∧ w'.cell? ⟨(ad270.add ((a2).toNat * 5)).block, (ad270.add ((a2).toNat * 5)).off + 4, none⟩ = some (.int .i64 ((rd_T71 l1_8 a2).f4))) (ds := []) #[false, false, false, false, false, false, false, false, false, false, false, false, false] (by kernel_rfl) rfl rfl ⟨bc BK264 0, bc BK264 1, bc BK264 2, bc BK264 3, bc BK264 4, bc BK264 5, bc BK264 6, bc BK264 7, bc BK264 8, bc BK269 0, bc BK269 1, ((HB.out.cell (World.block_lt_of_cell? w _ hw270_0)).trans hw270_0), ((HB.out.cell (World.block_lt_of_cell? w _ hw270_1)).trans hw270_1), ((HB.out.cell (World.block_lt_of_cell? w _ hw270_2)).trans hw270_2), ((HB.out.cell (World.block_lt_of_cell? w _ hw270_3)).trans hw270_3), ((HB.out.cell (World.block_lt_of_cell? w _ hw270_4)).trans hw270_4)⟩ (fun hHeld => ?_); refine with_tabW course_Water.tab4 course_Water.bits4 (fun HT_ HW_ => ?_)
     generalize w26.drew = w27 at BK263 BK264 BK265 BK269 HB hx270_0 hx270_1 hx270_2 hx270_3 hx270_4 hHeld ⊢
     refine pS 1 (some 28) rfl rfl (any_of HT_.out (by kernel_rfl)) (fun _ _ _ h => h) (by rfl) (fun w' => by go_simp; with_reducible rfl) (by simp only [Act.put, List.setIfInBounds_toArray, List.set_cons_zero, List.set_cons_succ, i64_w]; rfl) ?_
     refine pS 3 (some 30) rfl rfl (any_of HT_.out (by kernel_rfl)) (fun _ _ _ h => h) (by rfl) (fun w' => by go_simp; with_reducible rfl) (by simp only [Act.put, List.setIfInBounds_toArray, List.set_cons_zero, List.set_cons_succ, i64_w]; rfl) ?_
     refine tS 0 (some 27) rfl rfl (take_ofW HT_.out HW_.out (by kernel_rfl)) (fun _ _ _ h => h) (by rfl) (by rintro w' ⟨s0, s1, s2, s3, s4, s5, s6, s7, s8, s9, s10, s11, s12, s13, s14, s15⟩; go_simp; with_reducible rfl) hHeld (by simp only [Act.put, List.setIfInBounds_toArray, List.set_cons_zero, List.set_cons_succ, i64_w]; rfl) ?_
     refine tS 2 (some 29) rfl rfl (take_ofW HT_.out HW_.out (by kernel_rfl)) (fun _ _ _ h => h) (by rfl) (by rintro w' ⟨s0, s1, s2, s3, s4, s5, s6, s7, s8, s9, s10, s11, s12, s13, s14, s15⟩; go_simp; with_reducible rfl) hHeld (by simp only [Act.put, List.setIfInBounds_toArray, List.set_cons_zero, List.set_cons_succ, i64_w]; rfl) ?_
     refine pS 4 (some 31) rfl rfl (any_of HT_.out (by kernel_rfl)) (fun _ _ _ h => h) (by rfl) (fun w' => by go_simp; with_reducible rfl) (by simp only [Act.put, List.setIfInBounds_toArray, List.set_cons_zero, List.set_cons_succ, i64_w]; rfl) ?_
     refine tS 5 (some 32) rfl rfl (take_ofW HT_.out HW_.out (by kernel_rfl)) (fun _ _ _ h => h) (by rfl) (by rintro w' ⟨s0, s1, s2, s3, s4, s5, s6, s7, s8, s9, s10, s11, s12, s13, s14, s15⟩; go_simp; with_reducible rfl) hHeld (by simp only [Act.put, List.setIfInBounds_toArray, List.set_cons_zero, List.set_cons_succ, i64_w]; rfl) ?_
     refine tS 6 (some 33) rfl rfl (take_ofW HT_.out HW_.out (by kernel_rfl)) (fun _ _ _ h => h) (by rfl) (by rintro w' ⟨s0, s1, s2, s3, s4, s5, s6, s7, s8, s9, s10, s11, s12, s13, s14, s15⟩; go_simp; with_reducible rfl) hHeld (by simp only [Act.put, List.setIfInBounds_toArray, List.set_cons_zero, List.set_cons_succ, i64_w]; rfl) ?_
     refine one_ (i := 7) (N := some 34) #[true, true, true, true, true, true, true, true, false, false, false, false, false] rfl rfl (one_of HT_.out (by kernel_rfl)) (by decide) (fun K hK => ?_)
     refine goesM Tryd.func86 (by kernel_rfl) rfl #[.agg #[.int .i64 a1_0, .int .i64 a1_1, .int .i64 a1_2, .int .i64 a1_3, .int .i64 a1_4, .int .i64 a1_5, .int .i64 a1_6, .int .i64 a1_7, .slice (some ad270) l1_8.length c1_8], .agg #[.int .i64 ((rd_T71 l1_8 a2).f0), .int .i64 ((rd_T71 l1_8 a2).f1), .int .i64 ((rd_T71 l1_8 a2).f2), .int .i64 ((rd_T71 l1_8 a2).f3), .int .i64 ((rd_T71 l1_8 a2).f4)], .agg #[.int .i64 t266, .int .i64 t267]] (by rfl) rfl rfl (by rfl) ?_
     with_reducible refine (course_snow.calls a1_0 a1_1 a1_2 a1_3 a1_4 a1_5 a1_6 a1_7 _ _ l1_8 ((rd_T71 l1_8 a2).f0) ((rd_T71 l1_8 a2).f1) ((rd_T71 l1_8 a2).f2) ((rd_T71 l1_8 a2).f3) ((rd_T71 l1_8 a2).f4) t266 t267 t271 t272 _ ?side1 ?side2 A9.out).mono ?_
     (case side1 => exact cP (Kd.C_below HR1_8.out HB.out))
     (case side2 => exact HC1_8.out)
     rintro e w28 ⟨rfl, hb⟩
     refine ⟨_, rfl, ?_⟩
     replace BK263 := kB gb263 hb
     replace BK264 := kB gb264 hb
     replace BK265 := kB gb265 hb
     replace BK269 := kB gb269 hb
     replace HB := bS w hb
     (try clear hb)
     refine hK.out _ _ ⟨bc BK264 0, bc BK264 1, bc BK264 2, bc BK264 3, bc BK264 4, bc BK264 5, bc BK264 6, bc BK264 7, bc BK264 8, bc BK269 0, bc BK269 1, ((HB.out.cell (World.block_lt_of_cell? w _ hw270_0)).trans hw270_0), ((HB.out.cell (World.block_lt_of_cell? w _ hw270_1)).trans hw270_1), ((HB.out.cell (World.block_lt_of_cell? w _ hw270_2)).trans hw270_2), ((HB.out.cell (World.block_lt_of_cell? w _ hw270_3)).trans hw270_3), ((HB.out.cell (World.block_lt_of_cell? w _ hw270_4)).trans hw270_4)⟩ (fun hHeld => ?_)
     clear hK K
     refine norm_ (a' := ?_) ?_ ?_
     rotate_left
     ·
      show Act.put _ (some 34) _ = _
      simp only [Act.put, List.setIfInBounds_toArray, List.set_cons_zero, List.set_cons_succ, i64_w]
      rfl
     refine pS 8 (some 26) rfl rfl (any_of HT_.out (by kernel_rfl)) (fun _ _ _ h => h) (by rfl) (fun w' => by go_simp; with_reducible rfl) (by simp only [Act.put, List.setIfInBounds_toArray, List.set_cons_zero, List.set_cons_succ, i64_w]; rfl) ?_
     refine pS 9 (some 35) rfl rfl (any_of HT_.out (by kernel_rfl)) (fun _ _ _ h => h) (by rfl) (fun w' => by go_simp; with_reducible rfl) (by simp only [Act.put, List.setIfInBounds_toArray, List.set_cons_zero, List.set_cons_succ, i64_w]; rfl) ?_
     refine pS 10 (some 36) rfl rfl (any_of HT_.out (by kernel_rfl)) (fun _ _ _ h => h) (by rfl) (fun w' => by go_simp; with_reducible rfl) (by simp only [Act.put, List.setIfInBounds_toArray, List.set_cons_zero, List.set_cons_succ, i64_w]; rfl) ?_
     refine pS 11 (some 12) rfl rfl (any_of HT_.out (by kernel_rfl)) (fun _ _ _ h => h) (by rfl) (fun w' => by go_simp; with_reducible rfl) (by simp only [Act.put, List.setIfInBounds_toArray, List.set_cons_zero, List.set_cons_succ, i64_w]; rfl) ?_
     refine pS 12 (some 13) rfl rfl (any_of HT_.out (by kernel_rfl)) (fun _ _ _ h => h) (by rfl) (fun w' => by go_simp; with_reducible rfl) (by simp only [Act.put, List.setIfInBounds_toArray, List.set_cons_zero, List.set_cons_succ, i64_w]; rfl) ?_
     refine done_ (done_of HT_.out (by kernel_rfl)) ?_
     try go_wp2
     have n0_ := Bk.mk (blk_drew BK263.out)
     have n1_ := Bk.mk (blk_drew BK264.out)
     have n2_ := Bk.mk (blk_drew BK265.out)
     have n3_ := Bk.mk (blk_drew BK269.out)
     have n4_ := Bw.mk (below_drew1 HB.out)
     clear BK263 BK264 BK265 BK269 HB
     have BK263 := n0_
     have BK264 := n1_
     have BK265 := n2_
     have BK269 := n3_
     have HB := n4_
     clear n0_ n1_ n2_ n3_ n4_
     refine start_ (n := 12) (S := fun w' => w'.cell? ⟨gb264, 0, none⟩ = some (.int .i64 a1_0) ∧ w'.cell? ⟨gb264, 1, none⟩ = some (.int .i64 a1_1) ∧ w'.cell? ⟨gb264, 2, none⟩ = some (.int .i64 a1_2) ∧ w'.cell? ⟨gb264, 3, none⟩ = some (.int .i64 a1_3) ∧ w'.cell? ⟨gb264, 4, none⟩ = some (.int .i64 a1_4) ∧ w'.cell? ⟨gb264, 5, none⟩ = some (.int .i64 a1_5) ∧ w'.cell? ⟨gb264, 6, none⟩ = some (.int .i64 a1_6) ∧ w'.cell? ⟨gb264, 7, none⟩ = some (.int .i64 a1_7) ∧ w'.cell? ⟨gb264, 8, none⟩ = some (.slice (some ad270) l1_8.length c1_8)) (ds := []) #[false, false, false, false, false, false, false, false, false, false, false, false] (by kernel_rfl) rfl rfl ⟨bc BK264 0, bc BK264 1, bc BK264 2, bc BK264 3, bc BK264 4, bc BK264 5, bc BK264 6, bc BK264 7, bc BK264 8⟩ (fun hHeld => ?_); refine with_tabW course_Water.tab5 course_Water.bits5 (fun HT_ HW_ => ?_)
     generalize w28.drew = w29 at BK263 BK264 BK265 BK269 HB hHeld ⊢
     refine pS 0 (some 37) rfl rfl (any_of HT_.out (by kernel_rfl)) (fun _ _ _ h => h) (by rfl) (fun w' => by go_simp; with_reducible rfl) (by simp only [Act.put, List.setIfInBounds_toArray, List.set_cons_zero, List.set_cons_succ, i64_w]; rfl) ?_
     refine pS 1 (some 38) rfl rfl (any_of HT_.out (by kernel_rfl)) (fun _ _ _ h => h) (by rfl) (fun w' => by go_simp; with_reducible rfl) (by simp only [Act.put, List.setIfInBounds_toArray, List.set_cons_zero, List.set_cons_succ, i64_w]; rfl) ?_
     refine pS 5 (some 42) rfl rfl (any_of HT_.out (by kernel_rfl)) (fun _ _ _ h => h) (by rfl) (fun w' => by go_simp; with_reducible rfl) (by simp only [Act.put, List.setIfInBounds_toArray, List.set_cons_zero, List.set_cons_succ, i64_w]; rfl) ?_
     refine pS 6 (some 43) rfl rfl (any_of HT_.out (by kernel_rfl)) (fun _ _ _ h => h) (by rfl) (fun w' => by go_simp; with_reducible rfl) (by simp only [Act.put, List.setIfInBounds_toArray, List.set_cons_zero, List.set_cons_succ, i64_w]; rfl) ?_
     refine tS 2 (some 39) rfl rfl (take_ofW HT_.out HW_.out (by kernel_rfl)) (fun _ _ _ h => h) (by rfl) (by rintro w' ⟨s0, s1, s2, s3, s4, s5, s6, s7, s8⟩; go_simp; with_reducible rfl) hHeld (by simp only [Act.put, List.setIfInBounds_toArray, List.set_cons_zero, List.set_cons_succ, i64_w]; rfl) ?_
     refine pS 3 (some 40) rfl rfl (any_of HT_.out (by kernel_rfl)) (fun _ _ _ h => h) (by rfl) (fun w' => by go_simp; with_reducible rfl) (by simp only [Act.put, List.setIfInBounds_toArray, List.set_cons_zero, List.set_cons_succ, i64_w]; rfl) ?_
     refine pS 4 (some 41) rfl rfl (any_of HT_.out (by kernel_rfl)) (fun _ _ _ h => h) (by rfl) (fun w' => by go_simp; with_reducible rfl) (by simp only [Act.put, List.setIfInBounds_toArray, List.set_cons_zero, List.set_cons_succ, i64_w]; rfl) ?_
     refine tS 7 (some 44) rfl rfl (take_ofW HT_.out HW_.out (by kernel_rfl)) (fun _ _ _ h => h) (by rfl) (by rintro w' ⟨s0, s1, s2, s3, s4, s5, s6, s7, s8⟩; go_simp; with_reducible rfl) hHeld (by simp only [Act.put, List.setIfInBounds_toArray, List.set_cons_zero, List.set_cons_succ, i64_w]; rfl) ?_
     refine one_ (i := 8) (N := some 45) #[true, true, true, true, true, true, true, true, true, false, false, false] rfl rfl (one_of HT_.out (by kernel_rfl)) (by decide) (fun K hK => ?_)
     refine goesM Tryd.func87 (by kernel_rfl) rfl #[.int .i64 t272, .int .i64 a1_5] (by rfl) rfl rfl (by rfl) ?_
     with_reducible refine (course_up.calls t272 a1_5 t273 _ A11.out).mono ?_
     rintro e w' ⟨rfl, ⟨nd, rfl⟩⟩
     refine ⟨_, rfl, ?_⟩
     refine hK.out _ _ ⟨bc BK264 0, bc BK264 1, bc BK264 2, bc BK264 3, bc BK264 4, bc BK264 5, bc BK264 6, bc BK264 7, bc BK264 8⟩ (fun hHeld => ?_)
     clear hK K
     refine norm_ (a' := ?_) ?_ ?_
     rotate_left
     ·
      show Act.put _ (some 45) _ = _
      simp only [Act.put, List.setIfInBounds_toArray, List.set_cons_zero, List.set_cons_succ, i64_w]
      rfl
     refine pS 9 (some 46) rfl rfl (any_of HT_.out (by kernel_rfl)) (fun _ _ _ h => h) (by rfl) (fun w' => by go_simp; with_reducible rfl) (by simp only [Act.put, List.setIfInBounds_toArray, List.set_cons_zero, List.set_cons_succ, i64_w]; rfl) ?_
     refine one_ (i := 10) (N := none) #[true, true, true, true, true, true, true, true, true, true, true, false] rfl rfl (one_of HT_.out (by kernel_rfl)) (by decide) (fun K hK => ?_)
     have hs30 : w29.cell? ⟨gb265, 0, none⟩ = some (.int .i64 0) := bc BK265 0
     have hfs30 := blk_frozen BK265.out 0
     have hns30_0 := NB263_265.out
     have hns30_1 := NB264_265.out
     have hns30_3 := NB265_269.out.symm
     have hms30_0 := NB263_265.out.symm
     have hms30_1 := NB264_265.out.symm
     have hms30_3 := NB265_269.out
     have hs31 : w29.cell? ⟨gb265, 1, none⟩ = some (.int .i64 0) := bc BK265 1
     have hfs31 := blk_frozen BK265.out 1
     have hns31_0 := NB263_265.out
     have hns31_1 := NB264_265.out
     have hns31_3 := NB265_269.out.symm
     have hms31_0 := NB263_265.out.symm
     have hms31_1 := NB264_265.out.symm
     have hms31_3 := NB265_269.out
     refine skip_ (w1 := ?_) (by rfl) rfl ?_ ?_
     rotate_left
     ·
      go_simp
      rfl
     refine hK.out _ _ ⟨((cell_far (p := ⟨gb265, _, none⟩) NB264_265.out _).trans (((cell_far (p := ⟨gb265, _, none⟩) NB264_265.out _).trans (hHeld.1)))), ((cell_far (p := ⟨gb265, _, none⟩) NB264_265.out _).trans (((cell_far (p := ⟨gb265, _, none⟩) NB264_265.out _).trans (hHeld.2.1)))), ((cell_far (p := ⟨gb265, _, none⟩) NB264_265.out _).trans (((cell_far (p := ⟨gb265, _, none⟩) NB264_265.out _).trans (hHeld.2.2.1)))), ((cell_far (p := ⟨gb265, _, none⟩) NB264_265.out _).trans (((cell_far (p := ⟨gb265, _, none⟩) NB264_265.out _).trans (hHeld.2.2.2.1)))), ((cell_far (p := ⟨gb265, _, none⟩) NB264_265.out _).trans (((cell_far (p := ⟨gb265, _, none⟩) NB264_265.out _).trans (hHeld.2.2.2.2.1)))), ((cell_far (p := ⟨gb265, _, none⟩) NB264_265.out _).trans (((cell_far (p := ⟨gb265, _, none⟩) NB264_265.out _).trans (hHeld.2.2.2.2.2.1)))), ((cell_far (p := ⟨gb265, _, none⟩) NB264_265.out _).trans (((cell_far (p := ⟨gb265, _, none⟩) NB264_265.out _).trans (hHeld.2.2.2.2.2.2.1)))), ((cell_far (p := ⟨gb265, _, none⟩) NB264_265.out _).trans (((cell_far (p := ⟨gb265, _, none⟩) NB264_265.out _).trans (hHeld.2.2.2.2.2.2.2.1)))), ((cell_far (p := ⟨gb265, _, none⟩) NB264_265.out _).trans (((cell_far (p := ⟨gb265, _, none⟩) NB264_265.out _).trans (hHeld.2.2.2.2.2.2.2.2))))⟩ (fun hHeld => ?_)
     clear hK K
     refine pS 11 (some 9) rfl rfl (any_of HT_.out (by kernel_rfl)) (fun _ _ _ h => h) (by rfl) (fun w' => by go_simp; with_reducible rfl) (by simp only [Act.put, List.setIfInBounds_toArray, List.set_cons_zero, List.set_cons_succ, i64_w]; rfl) ?_
     refine done_ (done_of HT_.out (by kernel_rfl)) ?_
     try go_wp2
     all_goals (refine bodyPost_ret (results_ct rfl _ _ gb265 40 #[.int .i64 (wrap64 (Int.tdiv t271 (wrap64 (20 * a1_5)))), .int .i64 t273] (0, 0) _ rfl (bko gb265 (by rfl)) Tryd.underlying40 rfl (by kernel_rfl)) rfl ?_; exact ⟨by first | rfl | (simp [errW_none, errW_some] <;> rfl) | (simp [*, errW_none, errW_some] <;> rfl), bw w⟩)
   ·
    rw [if_neg c8] at H
    exact absurd H (by simp)
  ·
   rw [if_neg c7] at H
   exact absurd H (by simp)
 ·
  rw [if_neg c6] at H
  have c6b0 : (t268 == 0) = false := beq_eq_false_iff_ne.mpr c6
  have c6b1 : (t268 != 0) = true := bne_iff_ne.mpr c6
  simp only [Option.some.injEq, Prod.mk.injEq] at H
  obtain ⟨rfl, rfl, rfl⟩ := H
  go_enter Tryd.func29, Tryd.ntmps29
  go_wp2_with (first | ((with_reducible refine gate_dst (N := 4) rfl ?_); refine bxE 4 24 #[.int .i64 a0_0, .int .i64 a0_1, .slice A0_2 l0_2.length c0_2] (by rfl) (by rfl) (by first | (go_simp; done) | (go_simp; rfl)) ?_; intro gb263 hg w32 hbox hb; have BK263 := Bk.mk (hbox); have GE263 := eB w hg; replace HB := bS w hb; clear hb hbox hg) | ((with_reducible refine gate_dst (N := 5) rfl ?_); refine bxE 5 47 #[.int .i64 a1_0, .int .i64 a1_1, .int .i64 a1_2, .int .i64 a1_3, .int .i64 a1_4, .int .i64 a1_5, .int .i64 a1_6, .int .i64 a1_7, .slice A1_8 l1_8.length c1_8] (by rfl) (by rfl) (by first | (go_simp; done) | (go_simp; rfl)) ?_; intro gb264 hg w33 hbox hb; have BK264 := Bk.mk (hbox); have GE264 := eB w hg; have NB263_264 := nB gb263 hg; replace BK263 := kB gb263 hb; replace HB := bS w hb; clear hb hbox hg) | ((with_reducible refine gate_dst (N := 8) rfl ?_); refine bxE 8 40 #[.int .i64 0, .int .i64 0] (by rfl) (by rfl) (by first | (go_simp; done) | (go_simp; rfl)) ?_; intro gb265 hg w34 hbox hb; have BK265 := Bk.mk (hbox); have GE265 := eB w hg; have NB263_265 := nB gb263 hg; have NB264_265 := nB gb264 hg; replace BK263 := kB gb263 hb; replace BK264 := kB gb264 hb; replace HB := bS w hb; clear hb hbox hg; obtain ⟨hnb35, hnc35⟩ := nn NB263_264; obtain ⟨hnb36, hnc36⟩ := nn NB263_265; obtain ⟨hcz37_0, hcz37_1, hcz37_2, hfz37_0, hfz37_1, hfz37_2⟩ := cz3 BK263; obtain ⟨hnb38, hnc38⟩ := nn NB264_265; obtain ⟨hcz39_0, hcz39_1, hcz39_2, hcz39_3, hcz39_4, hcz39_5, hcz39_6, hcz39_7, hcz39_8, hfz39_0, hfz39_1, hfz39_2, hfz39_3, hfz39_4, hfz39_5, hfz39_6, hfz39_7, hfz39_8⟩ := cz9 BK264) | ((with_reducible refine gate_callee (f := 81) rfl ?_); refine goesLM (some 19) rfl rfl Tryd.func81 (by kernel_rfl) rfl #[.agg #[.int .i64 a0_0, .int .i64 a0_1, .slice A0_2 l0_2.length c0_2], .agg #[.int .i64 a1_0, .int .i64 a1_1, .int .i64 a1_2, .int .i64 a1_3, .int .i64 a1_4, .int .i64 a1_5, .int .i64 a1_6, .int .i64 a1_7, .slice A1_8 l1_8.length c1_8], .int .i64 a2, .int .i64 a3] rfl (by rfl) ?_; (with_reducible refine (course_look.calls k a0_0 a0_1 _ _ l0_2 a1_0 a1_1 a1_2 a1_3 a1_4 a1_5 a1_6 a1_7 _ _ l1_8 a2 a3 t266 t267 t268 _ ?side1 ?side2 ?side3 ?side4 A5.out).mono ?_); (case side1 => exact cP (Kd.C_below HR0_2.out HB.out)); (case side2 => exact HC0_2.out); (case side3 => exact cP (Kd.C_below HR1_8.out HB.out)); (case side4 => exact HC1_8.out); rintro e w40 ⟨rfl, hb⟩; refine ⟨_, rfl, ?_⟩; replace BK263 := kB gb263 hb; replace BK264 := kB gb264 hb; replace BK265 := kB gb265 hb; replace HB := bS w hb; (try clear hb)) | ((with_reducible refine gate_dst (N := 10) rfl ?_); refine bxE 10 103 #[.int .i64 0, .int .i64 0] (by rfl) (by rfl) (by first | (go_simp; done) | (go_simp; rfl)) ?_; intro gb269 hg w41 hbox hb; have BK269 := Bk.mk (hbox); have GE269 := eB w hg; have NB263_269 := nB gb263 hg; have NB264_269 := nB gb264 hg; have NB265_269 := nB gb265 hg; replace BK263 := kB gb263 hb; replace BK264 := kB gb264 hb; replace BK265 := kB gb265 hb; replace HB := bS w hb; clear hb hbox hg; obtain ⟨hnc42, hnb42⟩ := nn NB263_269; obtain ⟨hnc43, hnb43⟩ := nn NB264_269; obtain ⟨hnc44, hnb44⟩ := nn NB265_269; obtain ⟨hcz45_0, hcz45_1, hfz45_0, hfz45_1⟩ := cz2 BK269; obtain ⟨hcz46_0, hcz46_1, hfz46_0, hfz46_1⟩ := cz2 BK265))
  all_goals (refine bodyPost_ret (results_ct rfl _ _ gb265 40 #[.int .i64 0, .int .i64 0] (0, 0) _ rfl (bko gb265 (by rfl)) Tryd.underlying40 rfl (by kernel_rfl)) rfl ?_; exact ⟨by first | rfl | (simp [errW_none, errW_some] <;> rfl) | (simp [*, errW_none, errW_some] <;> rfl), bw w⟩)
def course_rising.l0 : Nat → List Int → List Int → Int → Int → Option (Bool)
 | 0, _, _, _, _ => none
 | k + 1, x0, x5, x6, x7 => if x7 < x6 then (if 0 ≤ x7 then (if x7 < (x5.length : Int) then ((course_day.f (rd x5 x7)).bind fun t275 => (if t275 = true then (if x7 > 0 then (if 0 ≤ (wrap64 (x7 - 1)) then (if (wrap64 (x7 - 1)) < (x0.length : Int) then (if (rd x0 (wrap64 (x7 - 1))) ≥ (rd x5 x7) then (some false) else (course_rising.l0 k x0 x5 x6 (wrap64 (x7 + 1)))) else (none)) else (none)) else (course_rising.l0 k x0 x5 x6 (wrap64 (x7 + 1)))) else (some false))) else (none)) else (none)) else (some (decide ((x0.length : Int) ≤ 64)))
def course_rising.f (k : Nat) (l0 : List Int) : Option (Bool) := course_rising.l0 k l0 l0 (l0.length : Int) 0
theorem course_rising.mono_l : ∀ k, (∀ y0 y1 y2 y3, LeO (course_rising.l0 k y0 y1 y2 y3) (course_rising.l0 (k + 1) y0 y1 y2 y3))
 | 0 => fun _ _ _ _ r h => by simp [course_rising.l0] at h
 | k + 1 => by
  have ih0 := course_rising.mono_l k
  ·
   intro y0 y1 y2 y3
   unfold course_rising.l0
   repeat' first
   | (with_reducible exact ih0 _ _ _ _)
   | (with_reducible exact LeO.refl _)
   | (with_reducible exact LeO.none _)
   | (with_reducible refine LeO.ite ?_ ?_)
   | (with_reducible refine LeO.bind ?_ (fun _ => ?_))
   | exact ih0 _ _ _ _
   | exact LeO.none _
   | refine LeO.ite ?_ ?_
   | refine LeO.bind ?_ (fun _ => ?_)
theorem course_rising.mono : ∀ a0 k, LeO (course_rising.f k a0) (course_rising.f (k + 1) a0) := by
 intro a0 k
 have ih0 := course_rising.mono_l k
 unfold course_rising.f
 repeat' first
   | (with_reducible exact ih0 _ _ _ _)
   | (with_reducible exact LeO.refl _)
   | (with_reducible exact LeO.none _)
   | (with_reducible refine LeO.ite ?_ ?_)
   | (with_reducible refine LeO.bind ?_ (fun _ => ?_))
   | exact ih0 _ _ _ _
   | exact LeO.none _
   | refine LeO.ite ?_ ?_
   | refine LeO.bind ?_ (fun _ => ?_)
set_option maxHeartbeats 8000000 in
set_option maxRecDepth 100000 in
theorem course_rising.calls (k : Nat) (A0 : Option Addr) (c0 : Nat) (l0 : List Int) (r : Bool) (w : World) (hr0 : Kd.C (Kd.int .i64) w A0 l0.length l0) (hc0 : l0.length ≤ c0) (h : course_rising.f k l0 = some r) :
  Calls Tryd.prog 97 #[.slice A0 l0.length c0] w fun e w' => e = .returned (.bool r) ∧ Drawn0 w w' := by
 have HR0 := Aside0.mk (hr0)
 have HC0 := Aside0.mk (hc0)
 clear hr0 hc0
 have H : (course_rising.l0 k l0 l0 (l0.length : Int) 0) = some r := h
 clear h
 have H' := Aside0.mk H
 clear H
 go_enter Tryd.func97, Tryd.ntmps97
 go_wp2
 go_loopg [7] k (fun kq v7 w' => ∃ (x7_1 : Int), v7 = .int .i64 x7_1 ∧ Aside0 (course_rising.l0 kq l0 l0 (l0.length : Int) x7_1 = some r) ∧ Aside0 (kq ≤ k) ∧ Drawn0 w w')
 case atStart => exact ⟨(0), (by first | rfl | (simp; done) | (simp [*]; done)), H', ⟨Nat.le_refl _⟩, by repeat (first | exact Drawn0.refl _ | apply Drawn0.step)⟩
 case round =>
  clear H'
  obtain ⟨x7_1, rfl, HA, HK1, ⟨m1, rfl⟩⟩ := hrel
  cases gk with
  | zero => exact absurd HA.out (by simp [course_rising.l0])
  | succ k1 =>
   have H := HA.out
   clear HA
   simp only [course_rising.l0] at H
   by_cases c2 : x7_1 < (l0.length : Int)
   ·
    rw [if_pos c2] at H
    have c2b0 : decide (x7_1 < (l0.length : Int)) = true := decide_eq_true c2
    clear c2
    by_cases c3 : 0 ≤ x7_1
    ·
     rw [if_pos c3] at H
     have c3b0 : decide (0 ≤ x7_1) = true := decide_eq_true c3
     clear c3
     by_cases c4 : x7_1 < (l0.length : Int)
     ·
      rw [if_pos c4] at H
      have c4b0 : decide (x7_1 < (l0.length : Int)) = true := decide_eq_true c4
      clear c4
      replace H := Option.bind_eq_some_iff.mp H
      obtain ⟨t275, A50, H⟩ := H
      have A5 := Aside0.mk (A50)
      clear A50
      by_cases c6 : t275 = true
      ·
       subst c6
       rw [if_pos rfl] at H
       by_cases c7 : x7_1 > 0
       ·
        rw [if_pos c7] at H
        have c7b0 : decide (0 < x7_1) = true := decide_eq_true c7
        clear c7
        obtain ⟨ji8, hji8⟩ : ∃ j_ : Int, (wrap64 (x7_1 - 1)) = j_ := ⟨_, rfl⟩
        replace H : (if 0 ≤ (ji8) then (if (ji8) < (l0.length : Int) then (if (rd l0 (ji8)) ≥ (rd l0 x7_1) then (some false) else (course_rising.l0 k1 l0 l0 (l0.length : Int) (wrap64 (x7_1 + 1)))) else (none)) else (none)) = some r := by first | (rw [hji8] at H; exact H) | (simp only [hji8] at H ⊢; exact H)
        (try rw [hji8] at A5)
        have hji8w : (IntKind.i64.wrap (x7_1 - 1)) = ji8 := (i64_w _).trans hji8
        by_cases c9 : 0 ≤ (ji8)
        ·
         rw [if_pos c9] at H
         have c9b0 : decide (0 ≤ (ji8)) = true := decide_eq_true c9
         clear c9
         by_cases c10 : (ji8) < (l0.length : Int)
         ·
          rw [if_pos c10] at H
          have c10b0 : decide ((ji8) < (l0.length : Int)) = true := decide_eq_true c10
          clear c10
          by_cases c11 : (rd l0 (ji8)) ≥ (rd l0 x7_1)
          ·
           rw [if_pos c11] at H
           have c11b0 : decide ((rd l0 x7_1) ≤ (rd l0 (ji8))) = true := decide_eq_true c11
           clear c11
           obtain rfl := Option.some.inj H
           have p274 : 0 ≤ (x7_1 : Int) := of_decide_eq_true (by first | (with_reducible assumption) | assumption)
           have q274 : x7_1 < (l0.length : Int) := of_decide_eq_true (by first | (with_reducible assumption) | assumption)
           obtain ⟨ad274, e274, hx274_0⟩ := Kd.at_int HR0.out x7_1 p274 q274
           cases e274
           replace p274 := eq_true p274
           replace q274 := eq_true q274
           go_wp2_with (first | ((with_reducible refine gate_callee (f := 74) rfl ?_); refine goesLM (some 13) rfl rfl Tryd.func74 (by kernel_rfl) rfl #[.int .i64 (rd l0 x7_1)] rfl (by rfl) ?_; (with_reducible refine (course_day.calls (rd l0 x7_1) true _ A5.out).mono ?_); rintro e w' ⟨rfl, ⟨nd, rfl⟩⟩; refine ⟨_, rfl, ?_⟩; have p276 : 0 ≤ ((ji8) : Int) := of_decide_eq_true (by first | (with_reducible assumption) | assumption); have q276 : (ji8) < (l0.length : Int) := of_decide_eq_true (by first | (with_reducible assumption) | assumption); obtain ⟨ad276, e276, hx276_0⟩ := Kd.at_int HR0.out (ji8) p276 q276; obtain rfl : ad274 = ad276 := (by injection e276); replace p276 := eq_true p276; replace q276 := eq_true q276))
           go_ret
           exact ⟨by first | rfl | (simp; done) | (simp only [← hji8] <;> (first | rfl | simp)) | (simp [*]; done), by repeat (first | exact Drawn0.refl _ | apply Drawn0.step)⟩
          ·
           rw [if_neg c11] at H
           have c11b0 : decide ((rd l0 x7_1) ≤ (rd l0 (ji8))) = false := decide_eq_false c11
           clear c11
           have H' := Aside0.mk H
           clear H
           have p274 : 0 ≤ (x7_1 : Int) := of_decide_eq_true (by first | (with_reducible assumption) | assumption)
           have q274 : x7_1 < (l0.length : Int) := of_decide_eq_true (by first | (with_reducible assumption) | assumption)
           obtain ⟨ad274, e274, hx274_0⟩ := Kd.at_int HR0.out x7_1 p274 q274
           cases e274
           replace p274 := eq_true p274
           replace q274 := eq_true q274
           go_wp2_with (first | ((with_reducible refine gate_callee (f := 74) rfl ?_); refine goesLM (some 13) rfl rfl Tryd.func74 (by kernel_rfl) rfl #[.int .i64 (rd l0 x7_1)] rfl (by rfl) ?_; (with_reducible refine (course_day.calls (rd l0 x7_1) true _ A5.out).mono ?_); rintro e w' ⟨rfl, ⟨nd, rfl⟩⟩; refine ⟨_, rfl, ?_⟩; have p276 : 0 ≤ ((ji8) : Int) := of_decide_eq_true (by first | (with_reducible assumption) | assumption); have q276 : (ji8) < (l0.length : Int) := of_decide_eq_true (by first | (with_reducible assumption) | assumption); obtain ⟨ad276, e276, hx276_0⟩ := Kd.at_int HR0.out (ji8) p276 q276; obtain rfl : ad274 = ad276 := (by injection e276); replace p276 := eq_true p276; replace q276 := eq_true q276))
           go_roundg k1
           case measure => have := HK1.out; omega
           case rel => exact ⟨(wrap64 (x7_1 + 1)), (by first | rfl | (simp; done) | (simp [*]; done)), H', ⟨by have := HK1.out; omega⟩, by repeat (first | exact Drawn0.refl _ | apply Drawn0.step)⟩
         ·
          rw [if_neg c10] at H
          exact absurd H (by simp)
        ·
         rw [if_neg c9] at H
         exact absurd H (by simp)
       ·
        rw [if_neg c7] at H
        have c7b0 : decide (0 < x7_1) = false := decide_eq_false c7
        clear c7
        have H' := Aside0.mk H
        clear H
        have p274 : 0 ≤ (x7_1 : Int) := of_decide_eq_true (by first | (with_reducible assumption) | assumption)
        have q274 : x7_1 < (l0.length : Int) := of_decide_eq_true (by first | (with_reducible assumption) | assumption)
        obtain ⟨ad274, e274, hx274_0⟩ := Kd.at_int HR0.out x7_1 p274 q274
        cases e274
        replace p274 := eq_true p274
        replace q274 := eq_true q274
        go_wp2_with (first | ((with_reducible refine gate_callee (f := 74) rfl ?_); refine goesLM (some 13) rfl rfl Tryd.func74 (by kernel_rfl) rfl #[.int .i64 (rd l0 x7_1)] rfl (by rfl) ?_; (with_reducible refine (course_day.calls (rd l0 x7_1) true _ A5.out).mono ?_); rintro e w' ⟨rfl, ⟨nd, rfl⟩⟩; refine ⟨_, rfl, ?_⟩))
        go_roundg k1
        case measure => have := HK1.out; omega
        case rel => exact ⟨(wrap64 (x7_1 + 1)), (by first | rfl | (simp; done) | (simp [*]; done)), H', ⟨by have := HK1.out; omega⟩, by repeat (first | exact Drawn0.refl _ | apply Drawn0.step)⟩
      ·
       replace c6 := Bool.eq_false_iff.mpr c6
       subst c6
       rw [if_neg (show ¬ (false = true) by decide)] at H
       obtain rfl := Option.some.inj H
       have p274 : 0 ≤ (x7_1 : Int) := of_decide_eq_true (by first | (with_reducible assumption) | assumption)
       have q274 : x7_1 < (l0.length : Int) := of_decide_eq_true (by first | (with_reducible assumption) | assumption)
       obtain ⟨ad274, e274, hx274_0⟩ := Kd.at_int HR0.out x7_1 p274 q274
       cases e274
       replace p274 := eq_true p274
       replace q274 := eq_true q274
       go_wp2_with (first | ((with_reducible refine gate_callee (f := 74) rfl ?_); refine goesLM (some 13) rfl rfl Tryd.func74 (by kernel_rfl) rfl #[.int .i64 (rd l0 x7_1)] rfl (by rfl) ?_; (with_reducible refine (course_day.calls (rd l0 x7_1) false _ A5.out).mono ?_); rintro e w' ⟨rfl, ⟨nd, rfl⟩⟩; refine ⟨_, rfl, ?_⟩))
       go_ret
       exact ⟨by first | rfl | (simp; done) | (simp [*]; done), by repeat (first | exact Drawn0.refl _ | apply Drawn0.step)⟩
     ·
      rw [if_neg c4] at H
      exact absurd H (by simp)
    ·
     rw [if_neg c3] at H
     exact absurd H (by simp)
   ·
    rw [if_neg c2] at H
    have c2b0 : decide (x7_1 < (l0.length : Int)) = false := decide_eq_false c2
    clear c2
    obtain rfl := Option.some.inj H
    go_wp2
    go_ret
    exact ⟨by first | rfl | (simp; done) | (simp [*]; done), by repeat (first | exact Drawn0.refl _ | apply Drawn0.step)⟩
def course_within.f (a0 : Int) (a1 : Int) (a2 : Int) : Option (Bool) := (course_apart.f a0 a1).bind fun t277 => (some (decide (t277 ≤ a2)))
set_option maxHeartbeats 8000000 in
set_option maxRecDepth 100000 in
theorem course_within.calls (a0 : Int) (a1 : Int) (a2 : Int) (r : Bool) (w : World) (h : course_within.f a0 a1 a2 = some r) :
  Calls Tryd.prog 132 #[.int .i64 a0, .int .i64 a1, .int .i64 a2] w fun e w' => e = .returned (.bool r) ∧ Below w.heap.size w w' := by
 have HB := Bw.mk (Below.refl w.heap.size w)
 have H : ((course_apart.f a0 a1).bind fun t277 => (some (decide (t277 ≤ a2)))) = some r := h
 clear h
 replace H := Option.bind_eq_some_iff.mp H
 obtain ⟨t277, A40, H⟩ := H
 have A4 := Aside0.mk (A40)
 clear A40
 obtain rfl := Option.some.inj H
 go_enter Tryd.func132, Tryd.ntmps132
 go_wp2_with (first | ((with_reducible refine gate_callee (f := 101) rfl ?_); refine goesLM (some 9) rfl rfl Tryd.func101 (by kernel_rfl) rfl #[.int .i64 a0, .int .i64 a1] rfl (by rfl) ?_; (with_reducible refine (course_apart.calls a0 a1 t277 _ A4.out).mono ?_); rintro e w5 ⟨rfl, hb⟩; refine ⟨_, rfl, ?_⟩; replace HB := bS w hb; (try clear hb)))
 go_ret
 exact ⟨by first | rfl | (simp [errW_none, errW_some] <;> rfl) | (simp [*, errW_none, errW_some] <;> rfl), bw w⟩
mutual
def course_possible.l0 : Nat → Int → List Int → List Int → List Int → Int → Int → Int → Int → List (S26) → Option (Bool)
 | 0, _, _, _, _, _, _, _, _, _ => none
 | k + 1, x1, x2, x3, x12, x13, x14, x279000, x279001, x279002 => if x14 < x13 then (if 0 ≤ x14 then (if x14 < (x12.length : Int) then ((course_drift.f k x279000 x279001 x279002 (rd x12 x14) x1).bind fun bt280 => (if x14 < (x3.length : Int) then (if (rd x3 x14) < bt280.1 then (course_possible.j1 k x1 x2 x3 x14 (rd x12 x14) x12 x13 x14 true x279000 x279001 x279002) else (course_possible.j1 k x1 x2 x3 x14 (rd x12 x14) x12 x13 x14 (decide ((rd x3 x14) > bt280.2)) x279000 x279001 x279002)) else (none))) else (none)) else (none)) else (some true)
def course_possible.j1 : Nat → Int → List Int → List Int → Int → Int → List Int → Int → Int → Bool → Int → Int → List (S26) → Option (Bool)
 | 0, _, _, _, _, _, _, _, _, _, _, _, _ => none
 | k + 1, x1, x2, x3, x9, x10, x12, x13, x14, x38, x279000, x279001, x279002 => if x38 = true then (some false) else (if x9 > 0 then (if 0 ≤ (wrap64 (x9 - 1)) then (if (wrap64 (x9 - 1)) < (x3.length : Int) then (if 0 ≤ x9 then (if x9 < (x3.length : Int) then (if (wrap64 (x9 - 1)) < (x2.length : Int) then ((course_within.f (rd x3 (wrap64 (x9 - 1))) (rd x3 x9) (wrap64 (x279001 * (wrap64 (x10 - (rd x2 (wrap64 (x9 - 1)))))))).bind fun t288 => (if t288 = true then (course_possible.l0 k x1 x2 x3 x12 x13 (wrap64 (x14 + 1)) x279000 x279001 x279002) else (some false))) else (none)) else (none)) else (none)) else (none)) else (none)) else (course_possible.l0 k x1 x2 x3 x12 x13 (wrap64 (x14 + 1)) x279000 x279001 x279002))
end
def course_possible.f (k : Nat) (a0_0 : Int) (a0_1 : Int) (l0_2 : List (S26)) (a1 : Int) (l2 : List Int) (l3 : List Int) : Option (Bool) := course_possible.l0 k a1 l2 l3 l2 (l2.length : Int) 0 a0_0 a0_1 l0_2
theorem course_possible.mono_l : ∀ k, (∀ y0 y1 y2 y3 y4 y5 y6 y7 y8, LeO (course_possible.l0 k y0 y1 y2 y3 y4 y5 y6 y7 y8) (course_possible.l0 (k + 1) y0 y1 y2 y3 y4 y5 y6 y7 y8)) ∧ (∀ y0 y1 y2 y3 y4 y5 y6 y7 y8 y9 y10 y11, LeO (course_possible.j1 k y0 y1 y2 y3 y4 y5 y6 y7 y8 y9 y10 y11) (course_possible.j1 (k + 1) y0 y1 y2 y3 y4 y5 y6 y7 y8 y9 y10 y11))
 | 0 => ⟨fun _ _ _ _ _ _ _ _ _ r h => by simp [course_possible.l0] at h, fun _ _ _ _ _ _ _ _ _ _ _ _ r h => by simp [course_possible.j1] at h⟩
 | k + 1 => by
  obtain ⟨ih0, ih1⟩ := course_possible.mono_l k
  refine ⟨?_, ?_⟩
  ·
   intro y0 y1 y2 y3 y4 y5 y6 y7 y8
   unfold course_possible.l0
   repeat' first
   | (with_reducible exact ih0 _ _ _ _ _ _ _ _ _)
   | (with_reducible exact ih1 _ _ _ _ _ _ _ _ _ _ _ _)
   | (with_reducible exact course_drift.mono _ _ _ _ _ _)
   | (with_reducible exact LeO.refl _)
   | (with_reducible exact LeO.none _)
   | (with_reducible refine LeO.ite ?_ ?_)
   | (with_reducible refine LeO.bind ?_ (fun _ => ?_))
   | exact ih0 _ _ _ _ _ _ _ _ _
   | exact ih1 _ _ _ _ _ _ _ _ _ _ _ _
   | exact course_drift.mono _ _ _ _ _ _
   | exact LeO.none _
   | refine LeO.ite ?_ ?_
   | refine LeO.bind ?_ (fun _ => ?_)
  ·
   intro y0 y1 y2 y3 y4 y5 y6 y7 y8 y9 y10 y11
   unfold course_possible.j1
   repeat' first
   | (with_reducible exact ih0 _ _ _ _ _ _ _ _ _)
   | (with_reducible exact ih1 _ _ _ _ _ _ _ _ _ _ _ _)
   | (with_reducible exact course_drift.mono _ _ _ _ _ _)
   | (with_reducible exact LeO.refl _)
   | (with_reducible exact LeO.none _)
   | (with_reducible refine LeO.ite ?_ ?_)
   | (with_reducible refine LeO.bind ?_ (fun _ => ?_))
   | exact ih0 _ _ _ _ _ _ _ _ _
   | exact ih1 _ _ _ _ _ _ _ _ _ _ _ _
   | exact course_drift.mono _ _ _ _ _ _
   | exact LeO.none _
   | refine LeO.ite ?_ ?_
   | refine LeO.bind ?_ (fun _ => ?_)
theorem course_possible.mono : ∀ a0 a1 a2 a3 a4 a5 k, LeO (course_possible.f k a0 a1 a2 a3 a4 a5) (course_possible.f (k + 1) a0 a1 a2 a3 a4 a5) := by
 intro a0 a1 a2 a3 a4 a5 k
 obtain ⟨ih0, ih1⟩ := course_possible.mono_l k
 unfold course_possible.f
 repeat' first
   | (with_reducible exact ih0 _ _ _ _ _ _ _ _ _)
   | (with_reducible exact ih1 _ _ _ _ _ _ _ _ _ _ _ _)
   | (with_reducible exact course_drift.mono _ _ _ _ _ _)
   | (with_reducible exact LeO.refl _)
   | (with_reducible exact LeO.none _)
   | (with_reducible refine LeO.ite ?_ ?_)
   | (with_reducible refine LeO.bind ?_ (fun _ => ?_))
   | exact ih0 _ _ _ _ _ _ _ _ _
   | exact ih1 _ _ _ _ _ _ _ _ _ _ _ _
   | exact course_drift.mono _ _ _ _ _ _
   | exact LeO.none _
   | refine LeO.ite ?_ ?_
   | refine LeO.bind ?_ (fun _ => ?_)
def course_possible.T5 : Bool × List (List Nat × List Nat) := (true, [([], []), ([], []), ([0, 1], [0, 1]), ([2], [2]), ([], []), ([4], [4]), ([3, 5], [3, 5]), ([6], [6]), ([7], [7]), ([7], [7]), ([8, 9, 7], [7, 8, 9]), ([10, 7], [7, 10]), ([7], [7]), ([12, 7], [7, 12]), ([11, 13, 7], [7, 11, 13]), ([7, 14], [7, 14])])
def course_possible.B5 : List Nat := [0, 0, 3, 7, 0, 16, 63, 127, 255, 255, 1023, 2047, 255, 4351, 16383, 32767]
theorem course_possible.tab5 : rtab .any (opsOf Tryd.f98 5) = course_possible.T5 := by kernel_rfl
theorem course_possible.bits5 : waitsOk course_possible.T5.2 course_possible.B5 = true := by kernel_rfl
def course_possible.T7 : Bool × List (List Nat × List Nat) := (true, [([], []), ([0], [0]), ([1], [1]), ([2], [2]), ([2], [2]), ([4, 2], [2, 4]), ([3, 5, 2], [2, 3, 5]), ([6, 2], [2, 6]), ([2], [2]), ([2], [2]), ([8, 9, 2], [2, 8, 9]), ([10, 2], [2, 10]), ([2], [2]), ([12, 2], [2, 12]), ([2], [2]), ([2], [2]), ([2], [2]), ([16, 2], [2, 16]), ([15, 17, 2], [2, 15, 17]), ([18, 2], [2, 18]), ([14, 19, 2], [2, 14, 19]), ([13, 20, 2], [2, 13, 20]), ([7, 11, 21, 2, 2], [2, 7, 11, 21]), ([22, 2], [2, 22]), ([2, 23], [2, 23])])
def course_possible.B7 : List Nat := [0, 1, 3, 7, 7, 23, 63, 127, 7, 7, 775, 1799, 7, 4103, 7, 7, 7, 65543, 229383, 491527, 1032199, 2093063, 4194303, 8388607, 16777215]
theorem course_possible.tab7 : rtab .any (opsOf Tryd.f98 7) = course_possible.T7 := by kernel_rfl
theorem course_possible.bits7 : waitsOk course_possible.T7.2 course_possible.B7 = true := by kernel_rfl
set_option maxHeartbeats 8000000 in
set_option maxRecDepth 100000 in
theorem course_possible.calls (k : Nat) (a0_0 : Int) (a0_1 : Int) (A0_2 : Option Addr) (c0_2 : Nat) (l0_2 : List (S26)) (a1 : Int) (A2 : Option Addr) (c2 : Nat) (l2 : List Int) (A3 : Option Addr) (c3 : Nat) (l3 : List Int) (r : Bool) (w : World) (hr0_2 : Kd.C k26 w A0_2 l0_2.length l0_2) (hc0_2 : l0_2.length ≤ c0_2) (hr2 : Kd.C (Kd.int .i64) w A2 l2.length l2) (hc2 : l2.length ≤ c2) (hr3 : Kd.C (Kd.int .i64) w A3 l3.length l3) (hc3 : l3.length ≤ c3) (h : course_possible.f k a0_0 a0_1 l0_2 a1 l2 l3 = some r) :
  Calls Tryd.prog 98 #[.agg #[.int .i64 a0_0, .int .i64 a0_1, .slice A0_2 l0_2.length c0_2], .int .i64 a1, .slice A2 l2.length c2, .slice A3 l3.length c3] w fun e w' => e = .returned (.bool r) ∧ Below w.heap.size w w' := by
 have hu24 := Tryd.underlying24
 have hu103 := Tryd.underlying103
 have HR0_2 := Aside0.mk (hr0_2)
 have HC0_2 := Aside0.mk (hc0_2)
 clear hr0_2 hc0_2
 have HR2 := Aside0.mk (hr2)
 have HC2 := Aside0.mk (hc2)
 clear hr2 hc2
 have HR3 := Aside0.mk (hr3)
 have HC3 := Aside0.mk (hc3)
 clear hr3 hc3
 have HB := Bw.mk (Below.refl w.heap.size w)
 have H : (course_possible.l0 k a1 l2 l3 l2 (l2.length : Int) 0 a0_0 a0_1 l0_2) = some r := h
 clear h
 have H' := Aside0.mk H
 clear H
 go_enter Tryd.func98, Tryd.ntmps98
 go_wp2_with (first | ((with_reducible refine gate_dst (N := 4) rfl ?_); refine bxE 4 24 #[.int .i64 a0_0, .int .i64 a0_1, .slice A0_2 l0_2.length c0_2] (by rfl) (by rfl) (by first | (go_simp; done) | (go_simp; rfl)) ?_; intro gb278 hg w5 hbox hb; have BK278 := Bk.mk (hbox); have GE278 := eB w hg; replace HB := bS w hb; clear hb hbox hg))
 go_loopg [14] k (fun kq v14 w' => ∃ (x14_1 : Int), v14 = .int .i64 x14_1 ∧ Aside0 (course_possible.l0 kq a1 l2 l3 l2 (l2.length : Int) x14_1 a0_0 a0_1 l0_2 = some r) ∧ Aside0 (kq ≤ k) ∧ Bk w' gb278 (.cells #[.int .i64 a0_0, .int .i64 a0_1, (.slice A0_2 l0_2.length c0_2)] 24 (0, 0)) ∧ Bw w w')
 case atStart => exact ⟨(0), (by first | rfl | (simp; done) | (simp [*]; done)), H', ⟨Nat.le_refl _⟩, inferInstance, inferInstance⟩
 case round =>
  clear H'
  try clear c2
  try clear p2
  try clear c3
  obtain ⟨x14_1, rfl, HA, HK1, BK278, HB⟩ := hrel
  cases gk with
  | zero => exact absurd HA.out (by simp [course_possible.l0])
  | succ k1 =>
   have H := HA.out
   clear HA
   simp only [course_possible.l0] at H
   by_cases c6 : x14_1 < (l2.length : Int)
   ·
    rw [if_pos c6] at H
    have c6b0 : decide (x14_1 < (l2.length : Int)) = true := decide_eq_true c6
    clear c6
    by_cases c7 : 0 ≤ x14_1
    ·
     rw [if_pos c7] at H
     have c7b0 : decide (0 ≤ x14_1) = true := decide_eq_true c7
     clear c7
     by_cases c8 : x14_1 < (l2.length : Int)
     ·
      rw [if_pos c8] at H
      have c8b0 : decide (x14_1 < (l2.length : Int)) = true := decide_eq_true c8
      clear c8
      replace H := Option.bind_eq_some_iff.mp H
      obtain ⟨⟨t280, t281⟩, A90, H⟩ := H
      have A9 := Aside0.mk (A90)
      clear A90
      have HC10 := Aside0.mk (H)
      clear H
      have p279 : 0 ≤ (x14_1 : Int) := of_decide_eq_true (by first | (with_reducible assumption) | assumption)
      have q279 : x14_1 < (l2.length : Int) := of_decide_eq_true (by first | (with_reducible assumption) | assumption)
      obtain ⟨ad279, e279, hx279_0⟩ := Kd.at_int HR2.out x14_1 p279 q279
      cases e279
      replace hx279_0 := cB HB hx279_0
      replace p279 := eq_true p279
      replace q279 := eq_true q279
      obtain ⟨hcz11_0, hcz11_1, hcz11_2, hfz11_0, hfz11_1, hfz11_2⟩ := cz3 BK278
      go_upto_region 5 with (first | ((with_reducible refine gate_callee (f := 77) rfl ?_); refine goesLM (some 22) rfl rfl Tryd.func77 (by kernel_rfl) rfl #[.agg #[.int .i64 a0_0, .int .i64 a0_1, .slice A0_2 l0_2.length c0_2], .int .i64 (rd l2 x14_1), .int .i64 a1] rfl (by rfl) ?_; (with_reducible refine (course_drift.calls k1 a0_0 a0_1 _ _ l0_2 (rd l2 x14_1) a1 t280 t281 _ ?side1 ?side2 A9.out).mono ?_); (case side1 => exact cP (Kd.C_below HR0_2.out HB.out)); (case side2 => exact HC0_2.out); rintro e w12 ⟨rfl, hb⟩; refine ⟨_, rfl, ?_⟩; replace BK278 := kB gb278 hb; replace HB := bS w hb; (try clear hb)) | ((with_reducible refine gate_dst (N := 11) rfl ?_); refine bxE 11 103 #[.int .i64 0, .int .i64 0] (by rfl) (by rfl) (by first | (go_simp; done) | (go_simp; rfl)) ?_; intro gb282 hg w13 hbox hb; have BK282 := Bk.mk (hbox); have GE282 := eB w hg; have NB278_282 := nB gb278 hg; replace BK278 := kB gb278 hb; replace HB := bS w hb; clear hb hbox hg; obtain ⟨hnc14, hnb14⟩ := nn NB278_282; obtain ⟨hcz15_0, hcz15_1, hfz15_0, hfz15_1⟩ := cz2 BK282))
      (try simp only [Act.put, List.setIfInBounds_toArray, List.set_cons_zero, List.set_cons_succ])
      go_cut [38] (fun v38 wc => ∃ (kq : Nat) (x38_9 : Bool), v38 = .bool x38_9 ∧ Aside0 (course_possible.j1 kq a1 l2 l3 x14_1 (rd l2 x14_1) l2 (l2.length : Int) x14_1 x38_9 a0_0 a0_1 l0_2 = some r) ∧ Aside0 (kq ≤ k1) ∧ Bk wc gb278 (.cells #[.int .i64 a0_0, .int .i64 a0_1, (.slice A0_2 l0_2.length c0_2)] 24 (0, 0)) ∧ Bk wc gb282 (.cells #[.int .i64 t280, .int .i64 t281] 103 (0, 0)) ∧ Bw w wc)
      case first =>
       have H := HC10.out
       clear HC10
       by_cases c16 : x14_1 < (l3.length : Int)
       ·
        rw [if_pos c16] at H
        have c16b0 : decide (x14_1 < (l3.length : Int)) = true := decide_eq_true c16
        clear c16
        (first | rw [c16b0] | (simp only [i64_w]; rw [c16b0]) | skip)
        by_cases c17 : (rd l3 x14_1) < t280
        ·
         rw [if_pos c17] at H
         have c17b0 : decide ((rd l3 x14_1) < t280) = true := decide_eq_true c17
         clear c17
         have H' := Aside0.mk H
         clear H
         try go_wp2
         have n0_ : Bk ((w13.setCell ⟨gb282, 0, none⟩ (.int .i64 t280)).setCell ⟨gb282, 1, none⟩ (.int .i64 t281)) gb278 (.cells #[.int .i64 a0_0, .int .i64 a0_1, .slice A0_2 l0_2.length c0_2] 24 (0, 0)) := ⟨bko gb278 (by rfl)⟩
         have n1_ : Bk ((w13.setCell ⟨gb282, 0, none⟩ (.int .i64 t280)).setCell ⟨gb282, 1, none⟩ (.int .i64 t281)) gb282 (.cells #[.int .i64 t280, .int .i64 t281] 103 (0, 0)) := ⟨bko gb282 (by rfl)⟩
         have n2_ : Bw w ((w13.setCell ⟨gb282, 0, none⟩ (.int .i64 t280)).setCell ⟨gb282, 1, none⟩ (.int .i64 t281)) := inferInstance
         (try clear BK278)
         (try clear BK282)
         (try clear HB)
         generalize ((w13.setCell ⟨gb282, 0, none⟩ (.int .i64 t280)).setCell ⟨gb282, 1, none⟩ (.int .i64 t281)) = w18 at n0_ n1_ n2_ ⊢
         have BK278 := n0_
         have BK282 := n1_
         have HB := n2_
         clear n0_ n1_ n2_
         have n0_ := Bk.mk (blk_drew BK278.out)
         have n1_ := Bk.mk (blk_drew BK282.out)
         have n2_ := Bw.mk (below_drew1 HB.out)
         clear BK278 BK282 HB
         have BK278 := n0_
         have BK282 := n1_
         have HB := n2_
         clear n0_ n1_ n2_
         have p283 : 0 ≤ (x14_1 : Int) := of_decide_eq_true (by first | (with_reducible assumption) | assumption)
         have q283 : x14_1 < (l3.length : Int) := of_decide_eq_true (by first | (with_reducible assumption) | assumption)
         obtain ⟨ad283, e283, hx283_0⟩ := Kd.at_int HR3.out x14_1 p283 q283
         have hw283_0 := hx283_0
         cases e283
         replace hx283_0 := cB HB hx283_0
         replace p283 := eq_true p283
         replace q283 := eq_true q283
         refine start_ (n := 16) (S := fun w' => w'.cell? ⟨gb282, 0, none⟩ = some (.int .i64 t280) ∧ w'.cell? ⟨gb282, 1, none⟩ = some (.int .i64 t281) ∧ w'.cell? (ad283.add (x14_1).toNat) = some (.int .i64 (rd l3 x14_1))) (ds := []) #[false, false, false, false, false, false, false, false, false, false, false, false, false, false, false, false] (by kernel_rfl) rfl rfl ⟨bc BK282 0, bc BK282 1, ((HB.out.cell (World.block_lt_of_cell? w _ hw283_0)).trans hw283_0)⟩ (fun hHeld => ?_); refine with_tabW course_possible.tab5 course_possible.bits5 (fun HT_ HW_ => ?_)
         generalize w18.drew = w19 at BK278 BK282 HB hx283_0 hHeld ⊢
         refine pS 0 (some 23) rfl rfl (any_of HT_.out (by kernel_rfl)) (fun _ _ _ h => h) (by rfl) (fun w' => by go_simp; with_reducible rfl) (by simp only [Act.put, List.setIfInBounds_toArray, List.set_cons_zero, List.set_cons_succ, i64_w]; rfl) ?_
         refine pS 1 (some 24) rfl rfl (any_of HT_.out (by kernel_rfl)) (fun _ _ _ h => h) (by rfl) (fun w' => by go_simp; with_reducible rfl) (by simp only [Act.put, List.setIfInBounds_toArray, List.set_cons_zero, List.set_cons_succ, i64_w]; rfl) ?_
         refine pS 2 (some 25) rfl rfl (any_of HT_.out (by kernel_rfl)) (fun _ _ _ h => h) (by rfl) (fun w' => by go_simp; with_reducible rfl) (by simp only [Act.put, List.setIfInBounds_toArray, List.set_cons_zero, List.set_cons_succ, i64_w]; rfl) ?_
         refine pS 4 (some 27) rfl rfl (any_of HT_.out (by kernel_rfl)) (fun _ _ _ h => h) (by rfl) (fun w' => by go_simp; with_reducible rfl) (by simp only [Act.put, List.setIfInBounds_toArray, List.set_cons_zero, List.set_cons_succ, i64_w]; rfl) ?_
         refine tS 3 (some 26) rfl rfl (take_ofW HT_.out HW_.out (by kernel_rfl)) (fun _ _ _ h => h) (by rfl) (by rintro w' ⟨s0, s1, s2⟩; go_simp; with_reducible rfl) hHeld (by simp only [Act.put, List.setIfInBounds_toArray, List.set_cons_zero, List.set_cons_succ, i64_w]; rfl) ?_
         refine tS 5 (some 28) rfl rfl (take_ofW HT_.out HW_.out (by kernel_rfl)) (fun _ _ _ h => h) (by rfl) (by rintro w' ⟨s0, s1, s2⟩; go_simp; with_reducible rfl) hHeld (by simp only [Act.put, List.setIfInBounds_toArray, List.set_cons_zero, List.set_cons_succ, i64_w]; rfl) ?_
         refine pS 6 (some 29) rfl rfl (any_of HT_.out (by kernel_rfl)) (fun _ _ _ h => h) (by rfl) (fun w' => by go_simp; with_reducible rfl) (by simp only [Act.put, List.setIfInBounds_toArray, List.set_cons_zero, List.set_cons_succ, i64_w]; rfl) ?_
         refine pS 7 (some 30) rfl rfl (any_of HT_.out (by kernel_rfl)) (fun _ _ _ h => h) (by rfl) (fun w' => by go_simp; with_reducible rfl) (by simp only [Act.put, List.setIfInBounds_toArray, List.set_cons_zero, List.set_cons_succ, i64_w]; rfl) ?_
         refine pU 8 (some 31) rfl rfl (any_of HT_.out (by kernel_rfl)) (fun _ _ _ h => h) (by rfl) (by simp only [Act.put, List.setIfInBounds_toArray, List.set_cons_zero, List.set_cons_succ, i64_w]; rfl) ?_
         refine pU 9 (some 32) rfl rfl (any_of HT_.out (by kernel_rfl)) (fun _ _ _ h => h) (by rfl) (by simp only [Act.put, List.setIfInBounds_toArray, List.set_cons_zero, List.set_cons_succ, i64_w]; rfl) ?_
         refine pU 10 (some 33) rfl rfl (any_of HT_.out (by kernel_rfl)) (fun _ _ _ h => h) (by rfl) (by simp only [Act.put, List.setIfInBounds_toArray, List.set_cons_zero, List.set_cons_succ, i64_w]; rfl) ?_
         refine pU 11 (some 34) rfl rfl (any_of HT_.out (by kernel_rfl)) (fun _ _ _ h => h) (by rfl) (by simp only [Act.put, List.setIfInBounds_toArray, List.set_cons_zero, List.set_cons_succ, i64_w]; rfl) ?_
         refine pU 12 (some 35) rfl rfl (any_of HT_.out (by kernel_rfl)) (fun _ _ _ h => h) (by rfl) (by simp only [Act.put, List.setIfInBounds_toArray, List.set_cons_zero, List.set_cons_succ, i64_w]; rfl) ?_
         refine pU 13 (some 36) rfl rfl (any_of HT_.out (by kernel_rfl)) (fun _ _ _ h => h) (by rfl) (by simp only [Act.put, List.setIfInBounds_toArray, List.set_cons_zero, List.set_cons_succ, i64_w]; rfl) ?_
         refine pU 14 (some 37) rfl rfl (any_of HT_.out (by kernel_rfl)) (fun _ _ _ h => h) (by rfl) (by simp only [Act.put, List.setIfInBounds_toArray, List.set_cons_zero, List.set_cons_succ, i64_w]; rfl) ?_
         refine pS 15 (some 38) rfl rfl (any_of HT_.out (by kernel_rfl)) (fun _ _ _ h => h) (by rfl) (fun w' => by go_simp; with_reducible rfl) (by simp only [Act.put, List.setIfInBounds_toArray, List.set_cons_zero, List.set_cons_succ, i64_w]; rfl) ?_
         refine done_ (done_of HT_.out (by kernel_rfl)) ?_
         try go_wp2
         go_meet
         case rel => exact ⟨_, (true), (by first | rfl | (simp; done) | (simp [*]; done)), H', ⟨by have := HK1.out; first | omega | exact Nat.le_refl _⟩, inferInstance, inferInstance, inferInstance⟩
        ·
         rw [if_neg c17] at H
         have c17b0 : decide ((rd l3 x14_1) < t280) = false := decide_eq_false c17
         clear c17
         have H' := Aside0.mk H
         clear H
         try go_wp2
         have n0_ : Bk ((w13.setCell ⟨gb282, 0, none⟩ (.int .i64 t280)).setCell ⟨gb282, 1, none⟩ (.int .i64 t281)) gb278 (.cells #[.int .i64 a0_0, .int .i64 a0_1, .slice A0_2 l0_2.length c0_2] 24 (0, 0)) := ⟨bko gb278 (by rfl)⟩
         have n1_ : Bk ((w13.setCell ⟨gb282, 0, none⟩ (.int .i64 t280)).setCell ⟨gb282, 1, none⟩ (.int .i64 t281)) gb282 (.cells #[.int .i64 t280, .int .i64 t281] 103 (0, 0)) := ⟨bko gb282 (by rfl)⟩
         have n2_ : Bw w ((w13.setCell ⟨gb282, 0, none⟩ (.int .i64 t280)).setCell ⟨gb282, 1, none⟩ (.int .i64 t281)) := inferInstance
         (try clear BK278)
         (try clear BK282)
         (try clear HB)
         generalize ((w13.setCell ⟨gb282, 0, none⟩ (.int .i64 t280)).setCell ⟨gb282, 1, none⟩ (.int .i64 t281)) = w20 at n0_ n1_ n2_ ⊢
         have BK278 := n0_
         have BK282 := n1_
         have HB := n2_
         clear n0_ n1_ n2_
         have n0_ := Bk.mk (blk_drew BK278.out)
         have n1_ := Bk.mk (blk_drew BK282.out)
         have n2_ := Bw.mk (below_drew1 HB.out)
         clear BK278 BK282 HB
         have BK278 := n0_
         have BK282 := n1_
         have HB := n2_
         clear n0_ n1_ n2_
         have p283 : 0 ≤ (x14_1 : Int) := of_decide_eq_true (by first | (with_reducible assumption) | assumption)
         have q283 : x14_1 < (l3.length : Int) := of_decide_eq_true (by first | (with_reducible assumption) | assumption)
         obtain ⟨ad283, e283, hx283_0⟩ := Kd.at_int HR3.out x14_1 p283 q283
         have hw283_0 := hx283_0
         cases e283
         replace hx283_0 := cB HB hx283_0
         replace p283 := eq_true p283
         replace q283 := eq_true q283
         have p284 : 0 ≤ (x14_1 : Int) := of_decide_eq_true (by first | (with_reducible assumption) | assumption)
         have q284 : x14_1 < (l3.length : Int) := of_decide_eq_true (by first | (with_reducible assumption) | assumption)
         obtain ⟨ad284, e284, hx284_0⟩ := Kd.at_int HR3.out x14_1 p284 q284
         have hw284_0 := hx284_0
         obtain rfl : ad283 = ad284 := (by injection e284)
         replace hx284_0 := cB HB hx284_0
         replace p284 := eq_true p284
         replace q284 := eq_true q284
         refine start_ (n := 16) (S := fun w' => w'.cell? ⟨gb282, 0, none⟩ = some (.int .i64 t280) ∧ w'.cell? ⟨gb282, 1, none⟩ = some (.int .i64 t281) ∧ w'.cell? (ad283.add (x14_1).toNat) = some (.int .i64 (rd l3 x14_1)) ∧ w'.cell? (ad283.add (x14_1).toNat) = some (.int .i64 (rd l3 x14_1))) (ds := []) #[false, false, false, false, false, false, false, false, false, false, false, false, false, false, false, false] (by kernel_rfl) rfl rfl ⟨bc BK282 0, bc BK282 1, ((HB.out.cell (World.block_lt_of_cell? w _ hw283_0)).trans hw283_0), ((HB.out.cell (World.block_lt_of_cell? w _ hw284_0)).trans hw284_0)⟩ (fun hHeld => ?_); refine with_tabW course_possible.tab5 course_possible.bits5 (fun HT_ HW_ => ?_)
         generalize w20.drew = w21 at BK278 BK282 HB hx283_0 hx284_0 hHeld ⊢
         refine pS 0 (some 23) rfl rfl (any_of HT_.out (by kernel_rfl)) (fun _ _ _ h => h) (by rfl) (fun w' => by go_simp; with_reducible rfl) (by simp only [Act.put, List.setIfInBounds_toArray, List.set_cons_zero, List.set_cons_succ, i64_w]; rfl) ?_
         refine pS 1 (some 24) rfl rfl (any_of HT_.out (by kernel_rfl)) (fun _ _ _ h => h) (by rfl) (fun w' => by go_simp; with_reducible rfl) (by simp only [Act.put, List.setIfInBounds_toArray, List.set_cons_zero, List.set_cons_succ, i64_w]; rfl) ?_
         refine pS 2 (some 25) rfl rfl (any_of HT_.out (by kernel_rfl)) (fun _ _ _ h => h) (by rfl) (fun w' => by go_simp; with_reducible rfl) (by simp only [Act.put, List.setIfInBounds_toArray, List.set_cons_zero, List.set_cons_succ, i64_w]; rfl) ?_
         refine pS 4 (some 27) rfl rfl (any_of HT_.out (by kernel_rfl)) (fun _ _ _ h => h) (by rfl) (fun w' => by go_simp; with_reducible rfl) (by simp only [Act.put, List.setIfInBounds_toArray, List.set_cons_zero, List.set_cons_succ, i64_w]; rfl) ?_
         refine tS 3 (some 26) rfl rfl (take_ofW HT_.out HW_.out (by kernel_rfl)) (fun _ _ _ h => h) (by rfl) (by rintro w' ⟨s0, s1, s2, s3⟩; go_simp; with_reducible rfl) hHeld (by simp only [Act.put, List.setIfInBounds_toArray, List.set_cons_zero, List.set_cons_succ, i64_w]; rfl) ?_
         refine tS 5 (some 28) rfl rfl (take_ofW HT_.out HW_.out (by kernel_rfl)) (fun _ _ _ h => h) (by rfl) (by rintro w' ⟨s0, s1, s2, s3⟩; go_simp; with_reducible rfl) hHeld (by simp only [Act.put, List.setIfInBounds_toArray, List.set_cons_zero, List.set_cons_succ, i64_w]; rfl) ?_
         refine pS 6 (some 29) rfl rfl (any_of HT_.out (by kernel_rfl)) (fun _ _ _ h => h) (by rfl) (fun w' => by go_simp; with_reducible rfl) (by simp only [Act.put, List.setIfInBounds_toArray, List.set_cons_zero, List.set_cons_succ, i64_w]; rfl) ?_
         refine pS 7 (some 30) rfl rfl (any_of HT_.out (by kernel_rfl)) (fun _ _ _ h => h) (by rfl) (fun w' => by go_simp; with_reducible rfl) (by simp only [Act.put, List.setIfInBounds_toArray, List.set_cons_zero, List.set_cons_succ, i64_w]; rfl) ?_
         refine pS 8 (some 31) rfl rfl (any_of HT_.out (by kernel_rfl)) (fun _ _ _ h => h) (by rfl) (fun w' => by go_simp; with_reducible rfl) (by simp only [Act.put, List.setIfInBounds_toArray, List.set_cons_zero, List.set_cons_succ, i64_w]; rfl) ?_
         refine pS 9 (some 32) rfl rfl (any_of HT_.out (by kernel_rfl)) (fun _ _ _ h => h) (by rfl) (fun w' => by go_simp; with_reducible rfl) (by simp only [Act.put, List.setIfInBounds_toArray, List.set_cons_zero, List.set_cons_succ, i64_w]; rfl) ?_
         refine pS 10 (some 33) rfl rfl (any_of HT_.out (by kernel_rfl)) (fun _ _ _ h => h) (by rfl) (fun w' => by go_simp; with_reducible rfl) (by simp only [Act.put, List.setIfInBounds_toArray, List.set_cons_zero, List.set_cons_succ, i64_w]; rfl) ?_
         refine pS 12 (some 35) rfl rfl (any_of HT_.out (by kernel_rfl)) (fun _ _ _ h => h) (by rfl) (fun w' => by go_simp; with_reducible rfl) (by simp only [Act.put, List.setIfInBounds_toArray, List.set_cons_zero, List.set_cons_succ, i64_w]; rfl) ?_
         refine tS 11 (some 34) rfl rfl (take_ofW HT_.out HW_.out (by kernel_rfl)) (fun _ _ _ h => h) (by rfl) (by rintro w' ⟨s0, s1, s2, s3⟩; go_simp; with_reducible rfl) hHeld (by simp only [Act.put, List.setIfInBounds_toArray, List.set_cons_zero, List.set_cons_succ, i64_w]; rfl) ?_
         refine tS 13 (some 36) rfl rfl (take_ofW HT_.out HW_.out (by kernel_rfl)) (fun _ _ _ h => h) (by rfl) (by rintro w' ⟨s0, s1, s2, s3⟩; go_simp; with_reducible rfl) hHeld (by simp only [Act.put, List.setIfInBounds_toArray, List.set_cons_zero, List.set_cons_succ, i64_w]; rfl) ?_
         refine pS 14 (some 37) rfl rfl (any_of HT_.out (by kernel_rfl)) (fun _ _ _ h => h) (by rfl) (fun w' => by go_simp; with_reducible rfl) (by simp only [Act.put, List.setIfInBounds_toArray, List.set_cons_zero, List.set_cons_succ, i64_w]; rfl) ?_
         refine pS 15 (some 38) rfl rfl (any_of HT_.out (by kernel_rfl)) (fun _ _ _ h => h) (by rfl) (fun w' => by go_simp; with_reducible rfl) (by simp only [Act.put, List.setIfInBounds_toArray, List.set_cons_zero, List.set_cons_succ, i64_w]; rfl) ?_
         refine done_ (done_of HT_.out (by kernel_rfl)) ?_
         try go_wp2
         go_meet
         case rel => exact ⟨_, (decide ((rd l3 x14_1) > t281)), (by first | rfl | (simp; done) | (simp [*]; done)), H', ⟨by have := HK1.out; first | omega | exact Nat.le_refl _⟩, inferInstance, inferInstance, inferInstance⟩
       ·
        rw [if_neg c16] at H
        exact absurd H (by simp)
      case rest =>
       clear HC10
       try clear c1
       try clear c2
       try clear p2
       try clear q2
       try clear hx2
       try clear c3
       try clear c6
       try clear c6b0
       try clear c7
       try clear c7b0
       try clear c8
       try clear c8b0
       try clear c9
       try clear c14
       try clear c16
       try clear c16b0
       try clear c17
       try clear c17b0
       try clear hx279_0
       try clear hx283_0
       try clear hx284_0
       try clear p2
       try clear p279
       try clear p283
       try clear p284
       try clear q279
       try clear q283
       try clear q284
       obtain ⟨kq, x38_9, rfl, HA, HJ9, BK278, BK282, HB⟩ := hcut
       cases kq with
       | zero => exact absurd HA.out (by simp [course_possible.j1])
       | succ kj9 =>
        have H := HA.out
        clear HA
        simp only [course_possible.j1] at H
        by_cases c22 : x38_9 = true
        ·
         subst c22
         rw [if_pos rfl] at H
         obtain rfl := Option.some.inj H
         go_wp2
         go_ret
         exact ⟨by first | rfl | (simp [errW_none, errW_some] <;> rfl) | (simp [*, errW_none, errW_some] <;> rfl), bw w⟩
        ·
         replace c22 := Bool.eq_false_iff.mpr c22
         subst c22
         rw [if_neg (show ¬ (false = true) by decide)] at H
         by_cases c23 : x14_1 > 0
         ·
          rw [if_pos c23] at H
          have c23b0 : decide (0 < x14_1) = true := decide_eq_true c23
          clear c23
          obtain ⟨ji24, hji24⟩ : ∃ j_ : Int, (wrap64 (x14_1 - 1)) = j_ := ⟨_, rfl⟩
          replace H : (if 0 ≤ (ji24) then (if (ji24) < (l3.length : Int) then (if 0 ≤ x14_1 then (if x14_1 < (l3.length : Int) then (if (ji24) < (l2.length : Int) then ((course_within.f (rd l3 (ji24)) (rd l3 x14_1) (wrap64 (a0_1 * (wrap64 ((rd l2 x14_1) - (rd l2 (ji24))))))).bind fun t288 => (if t288 = true then (course_possible.l0 kj9 a1 l2 l3 l2 (l2.length : Int) (wrap64 (x14_1 + 1)) a0_0 a0_1 l0_2) else (some false))) else (none)) else (none)) else (none)) else (none)) else (none)) = some r := by first | (rw [hji24] at H; exact H) | (simp only [hji24] at H ⊢; exact H)
          have hji24w : (IntKind.i64.wrap (x14_1 - 1)) = ji24 := (i64_w _).trans hji24
          by_cases c25 : 0 ≤ (ji24)
          ·
           rw [if_pos c25] at H
           have c25b0 : decide (0 ≤ (ji24)) = true := decide_eq_true c25
           clear c25
           by_cases c26 : (ji24) < (l3.length : Int)
           ·
            rw [if_pos c26] at H
            have c26b0 : decide ((ji24) < (l3.length : Int)) = true := decide_eq_true c26
            clear c26
            by_cases c27 : 0 ≤ x14_1
            ·
             rw [if_pos c27] at H
             have c27b0 : decide (0 ≤ x14_1) = true := decide_eq_true c27
             clear c27
             by_cases c28 : x14_1 < (l3.length : Int)
             ·
              rw [if_pos c28] at H
              have c28b0 : decide (x14_1 < (l3.length : Int)) = true := decide_eq_true c28
              clear c28
              by_cases c29 : (ji24) < (l2.length : Int)
              ·
               rw [if_pos c29] at H
               have c29b0 : decide ((ji24) < (l2.length : Int)) = true := decide_eq_true c29
               clear c29
               replace H := Option.bind_eq_some_iff.mp H
               obtain ⟨t288, A300, H⟩ := H
               have A30 := Aside0.mk (A300)
               clear A300
               by_cases c31 : t288 = true
               ·
                subst c31
                rw [if_pos rfl] at H
                have H' := Aside0.mk H
                clear H
                try go_wp2
                have n0_ := Bk.mk (blk_drew BK278.out)
                have n1_ := Bk.mk (blk_drew BK282.out)
                have n2_ := Bw.mk (below_drew1 HB.out)
                clear BK278 BK282 HB
                have BK278 := n0_
                have BK282 := n1_
                have HB := n2_
                clear n0_ n1_ n2_
                have p285 : 0 ≤ ((ji24) : Int) := of_decide_eq_true (by first | (with_reducible assumption) | assumption)
                have q285 : (ji24) < (l3.length : Int) := of_decide_eq_true (by first | (with_reducible assumption) | assumption)
                obtain ⟨ad285, e285, hx285_0⟩ := Kd.at_int HR3.out (ji24) p285 q285
                have hw285_0 := hx285_0
                cases e285
                replace hx285_0 := cB HB hx285_0
                replace p285 := eq_true p285
                replace q285 := eq_true q285
                have p286 : 0 ≤ (x14_1 : Int) := of_decide_eq_true (by first | (with_reducible assumption) | assumption)
                have q286 : x14_1 < (l3.length : Int) := of_decide_eq_true (by first | (with_reducible assumption) | assumption)
                obtain ⟨ad286, e286, hx286_0⟩ := Kd.at_int HR3.out x14_1 p286 q286
                have hw286_0 := hx286_0
                obtain rfl : ad285 = ad286 := (by injection e286)
                replace hx286_0 := cB HB hx286_0
                replace p286 := eq_true p286
                replace q286 := eq_true q286
                have p287 : 0 ≤ ((ji24) : Int) := of_decide_eq_true (by first | (with_reducible assumption) | assumption)
                have q287 : (ji24) < (l2.length : Int) := of_decide_eq_true (by first | (with_reducible assumption) | assumption)
                obtain ⟨ad287, e287, hx287_0⟩ := Kd.at_int HR2.out (ji24) p287 q287
                have hw287_0 := hx287_0
                obtain rfl : ad279 = ad287 := (by injection e287)
                replace hx287_0 := cB HB hx287_0
                replace p287 := eq_true p287
                replace q287 := eq_true q287
                refine start_ (n := 25) (S := fun w' => w'.cell? ⟨gb278, 0, none⟩ = some (.int .i64 a0_0) ∧ w'.cell? ⟨gb278, 1, none⟩ = some (.int .i64 a0_1) ∧ w'.cell? ⟨gb278, 2, none⟩ = some (.slice A0_2 l0_2.length c0_2) ∧ w'.cell? (ad285.add ((ji24)).toNat) = some (.int .i64 (rd l3 (ji24))) ∧ w'.cell? (ad285.add (x14_1).toNat) = some (.int .i64 (rd l3 x14_1)) ∧ w'.cell? (ad279.add ((ji24)).toNat) = some (.int .i64 (rd l2 (ji24)))) (ds := []) #[false, false, false, false, false, false, false, false, false, false, false, false, false, false, false, false, false, false, false, false, false, false, false, false, false] (by kernel_rfl) rfl rfl ⟨bc BK278 0, bc BK278 1, bc BK278 2, ((HB.out.cell (World.block_lt_of_cell? w _ hw285_0)).trans hw285_0), ((HB.out.cell (World.block_lt_of_cell? w _ hw286_0)).trans hw286_0), ((HB.out.cell (World.block_lt_of_cell? w _ hw287_0)).trans hw287_0)⟩ (fun hHeld => ?_); refine with_tabW course_possible.tab7 course_possible.bits7 (fun HT_ HW_ => ?_)
                generalize wc.drew = w32 at BK278 BK282 HB hx285_0 hx286_0 hx287_0 hHeld ⊢
                refine pS 0 (some 39) rfl rfl (any_of HT_.out (by kernel_rfl)) (fun _ _ _ h => h) (by rfl) (fun w' => by go_simp; with_reducible rfl) (by simp only [Act.put, List.setIfInBounds_toArray, List.set_cons_zero, List.set_cons_succ, i64_w]; rfl) ?_
                refine pS 1 (some 40) rfl rfl (any_of HT_.out (by kernel_rfl)) (fun _ _ _ h => h) (by rfl) (fun w' => by go_simp; with_reducible rfl) (by simp only [Act.put, List.setIfInBounds_toArray, List.set_cons_zero, List.set_cons_succ, i64_w]; rfl) ?_
                refine pS 2 (some 41) rfl rfl (any_of HT_.out (by kernel_rfl)) (fun _ _ _ h => h) (by rfl) (fun w' => by go_simp; with_reducible rfl) (by simp only [Act.put, List.setIfInBounds_toArray, List.set_cons_zero, List.set_cons_succ, i64_w]; rfl) ?_
                refine pS 3 (some 42) rfl rfl (any_of HT_.out (by kernel_rfl)) (fun _ _ _ h => h) (by rfl) (fun w' => by go_simp; with_reducible rfl) (by simp only [Act.put, List.setIfInBounds_toArray, List.set_cons_zero, List.set_cons_succ, i64_w]; rfl) ?_
                refine pS 4 (some 43) rfl rfl (any_of HT_.out (by kernel_rfl)) (fun _ _ _ h => h) (by rfl) (fun w' => by go_simp; with_reducible rfl) (by simp only [Act.put, List.setIfInBounds_toArray, List.set_cons_zero, List.set_cons_succ, i64_w]; rfl) ?_
                refine pS 5 (some 44) rfl rfl (any_of HT_.out (by kernel_rfl)) (fun _ _ _ h => h) (by rfl) (fun w' => by go_simp; with_reducible rfl) (by simp only [Act.put, List.setIfInBounds_toArray, List.set_cons_zero, List.set_cons_succ, i64_w]; rfl) ?_
                refine pS 6 (some 45) rfl rfl (any_of HT_.out (by kernel_rfl)) (fun _ _ _ h => h) (by rfl) (fun w' => by go_simp; with_reducible rfl) (by simp only [Act.put, List.setIfInBounds_toArray, List.set_cons_zero, List.set_cons_succ, i64_w]; rfl) ?_
                refine pS 8 (some 47) rfl rfl (any_of HT_.out (by kernel_rfl)) (fun _ _ _ h => h) (by rfl) (fun w' => by go_simp; with_reducible rfl) (by simp only [Act.put, List.setIfInBounds_toArray, List.set_cons_zero, List.set_cons_succ, i64_w]; rfl) ?_
                refine pS 9 (some 48) rfl rfl (any_of HT_.out (by kernel_rfl)) (fun _ _ _ h => h) (by rfl) (fun w' => by go_simp; with_reducible rfl) (by simp only [Act.put, List.setIfInBounds_toArray, List.set_cons_zero, List.set_cons_succ, i64_w]; rfl) ?_
                refine pS 10 (some 49) rfl rfl (any_of HT_.out (by kernel_rfl)) (fun _ _ _ h => h) (by rfl) (fun w' => by go_simp; with_reducible rfl) (by simp only [Act.put, List.setIfInBounds_toArray, List.set_cons_zero, List.set_cons_succ, i64_w]; rfl) ?_
                refine pS 12 (some 51) rfl rfl (any_of HT_.out (by kernel_rfl)) (fun _ _ _ h => h) (by rfl) (fun w' => by go_simp; with_reducible rfl) (by simp only [Act.put, List.setIfInBounds_toArray, List.set_cons_zero, List.set_cons_succ, i64_w]; rfl) ?_
                refine pS 14 (some 53) rfl rfl (any_of HT_.out (by kernel_rfl)) (fun _ _ _ h => h) (by rfl) (fun w' => by go_simp; with_reducible rfl) (by simp only [Act.put, List.setIfInBounds_toArray, List.set_cons_zero, List.set_cons_succ, i64_w]; rfl) ?_
                refine pS 15 (some 54) rfl rfl (any_of HT_.out (by kernel_rfl)) (fun _ _ _ h => h) (by rfl) (fun w' => by go_simp; with_reducible rfl) (by simp only [Act.put, List.setIfInBounds_toArray, List.set_cons_zero, List.set_cons_succ, i64_w]; rfl) ?_
                refine pS 16 (some 55) rfl rfl (any_of HT_.out (by kernel_rfl)) (fun _ _ _ h => h) (by rfl) (fun w' => by go_simp; with_reducible rfl) (by simp only [Act.put, List.setIfInBounds_toArray, List.set_cons_zero, List.set_cons_succ, i64_w]; rfl) ?_
                refine pS 17 (some 56) rfl rfl (any_of HT_.out (by kernel_rfl)) (fun _ _ _ h => h) (by rfl) (fun w' => by go_simp; with_reducible rfl) (by simp only [Act.put, List.setIfInBounds_toArray, List.set_cons_zero, List.set_cons_succ, i64_w]; rfl) ?_
                refine pS 18 (some 57) rfl rfl (any_of HT_.out (by kernel_rfl)) (fun _ _ _ h => h) (by rfl) (fun w' => by go_simp; with_reducible rfl) (by simp only [Act.put, List.setIfInBounds_toArray, List.set_cons_zero, List.set_cons_succ, i64_w]; rfl) ?_
                refine tS 7 (some 46) rfl rfl (take_ofW HT_.out HW_.out (by kernel_rfl)) (fun _ _ _ h => h) (by rfl) (by rintro w' ⟨s0, s1, s2, s3, s4, s5⟩; go_simp; with_reducible rfl) hHeld (by simp only [Act.put, List.setIfInBounds_toArray, List.set_cons_zero, List.set_cons_succ, i64_w]; rfl) ?_
                refine tS 11 (some 50) rfl rfl (take_ofW HT_.out HW_.out (by kernel_rfl)) (fun _ _ _ h => h) (by rfl) (by rintro w' ⟨s0, s1, s2, s3, s4, s5⟩; go_simp; with_reducible rfl) hHeld (by simp only [Act.put, List.setIfInBounds_toArray, List.set_cons_zero, List.set_cons_succ, i64_w]; rfl) ?_
                refine tS 13 (some 52) rfl rfl (take_ofW HT_.out HW_.out (by kernel_rfl)) (fun _ _ _ h => h) (by rfl) (by rintro w' ⟨s0, s1, s2, s3, s4, s5⟩; go_simp; with_reducible rfl) hHeld (by simp only [Act.put, List.setIfInBounds_toArray, List.set_cons_zero, List.set_cons_succ, i64_w]; rfl) ?_
                refine tS 19 (some 58) rfl rfl (take_ofW HT_.out HW_.out (by kernel_rfl)) (fun _ _ _ h => h) (by rfl) (by rintro w' ⟨s0, s1, s2, s3, s4, s5⟩; go_simp; with_reducible rfl) hHeld (by simp only [Act.put, List.setIfInBounds_toArray, List.set_cons_zero, List.set_cons_succ, i64_w]; rfl) ?_
                refine pS 20 (some 59) rfl rfl (any_of HT_.out (by kernel_rfl)) (fun _ _ _ h => h) (by rfl) (fun w' => by go_simp; with_reducible rfl) (by simp only [Act.put, List.setIfInBounds_toArray, List.set_cons_zero, List.set_cons_succ, i64_w]; rfl) ?_
                refine pS 21 (some 60) rfl rfl (any_of HT_.out (by kernel_rfl)) (fun _ _ _ h => h) (by rfl) (fun w' => by go_simp; with_reducible rfl) (by simp only [Act.put, List.setIfInBounds_toArray, List.set_cons_zero, List.set_cons_succ, i64_w]; rfl) ?_
                refine one_ (i := 22) (N := some 61) #[true, true, true, true, true, true, true, true, true, true, true, true, true, true, true, true, true, true, true, true, true, true, true, false, false] rfl rfl (one_of HT_.out (by kernel_rfl)) (by decide) (fun K hK => ?_)
                refine goes_ Tryd.func132 (by kernel_rfl) rfl #[.int .i64 (rd l3 (ji24)), .int .i64 (rd l3 x14_1), .int .i64 (wrap64 (a0_1 * (wrap64 ((rd l2 x14_1) - (rd l2 (ji24))))))] (by rfl) rfl rfl (by (try simp only [List.map_toArray, List.map_cons, List.map_nil]); first | done | (simp only [hji24]; rfl) | rfl | (simp only [List.length_drop, List.length_take]; rfl)) ?_
                with_reducible refine (course_within.calls (rd l3 (ji24)) (rd l3 x14_1) (wrap64 (a0_1 * (wrap64 ((rd l2 x14_1) - (rd l2 (ji24)))))) true _ A30.out).mono ?_
                rintro e w33 ⟨rfl, hb⟩
                refine ⟨_, rfl, ?_⟩
                replace BK278 := kB gb278 hb
                replace BK282 := kB gb282 hb
                replace HB := bS w hb
                (try clear hb)
                refine hK.out _ _ ⟨bc BK278 0, bc BK278 1, bc BK278 2, ((HB.out.cell (World.block_lt_of_cell? w _ hw285_0)).trans hw285_0), ((HB.out.cell (World.block_lt_of_cell? w _ hw286_0)).trans hw286_0), ((HB.out.cell (World.block_lt_of_cell? w _ hw287_0)).trans hw287_0)⟩ (fun hHeld => ?_)
                clear hK K
                refine norm_ (a' := ?_) ?_ ?_
                rotate_left
                ·
                 show Act.put _ (some 61) _ = _
                 simp only [Act.put, List.setIfInBounds_toArray, List.set_cons_zero, List.set_cons_succ, i64_w]
                 rfl
                refine pS 23 (some 62) rfl rfl (any_of HT_.out (by kernel_rfl)) (fun _ _ _ h => h) (by rfl) (fun w' => by go_simp; with_reducible rfl) (by simp only [Act.put, List.setIfInBounds_toArray, List.set_cons_zero, List.set_cons_succ, i64_w]; rfl) ?_
                refine pS 24 (some 63) rfl rfl (any_of HT_.out (by kernel_rfl)) (fun _ _ _ h => h) (by rfl) (fun w' => by go_simp; with_reducible rfl) (by simp only [Act.put, List.setIfInBounds_toArray, List.set_cons_zero, List.set_cons_succ, i64_w]; rfl) ?_
                refine done_ (done_of HT_.out (by kernel_rfl)) ?_
                try go_wp2
                go_roundg kj9
                case measure => have := HK1.out; have := HJ9.out; omega
                case rel => exact ⟨(wrap64 (x14_1 + 1)), (by first | rfl | (simp; done) | (simp [*]; done)), H', ⟨by have := HK1.out; have := HJ9.out; omega⟩, inferInstance, inferInstance⟩
               ·
                replace c31 := Bool.eq_false_iff.mpr c31
                subst c31
                rw [if_neg (show ¬ (false = true) by decide)] at H
                obtain rfl := Option.some.inj H
                try go_wp2
                have n0_ := Bk.mk (blk_drew BK278.out)
                have n1_ := Bk.mk (blk_drew BK282.out)
                have n2_ := Bw.mk (below_drew1 HB.out)
                clear BK278 BK282 HB
                have BK278 := n0_
                have BK282 := n1_
                have HB := n2_
                clear n0_ n1_ n2_
                have p285 : 0 ≤ ((ji24) : Int) := of_decide_eq_true (by first | (with_reducible assumption) | assumption)
                have q285 : (ji24) < (l3.length : Int) := of_decide_eq_true (by first | (with_reducible assumption) | assumption)
                obtain ⟨ad285, e285, hx285_0⟩ := Kd.at_int HR3.out (ji24) p285 q285
                have hw285_0 := hx285_0
                cases e285
                replace hx285_0 := cB HB hx285_0
                replace p285 := eq_true p285
                replace q285 := eq_true q285
                have p286 : 0 ≤ (x14_1 : Int) := of_decide_eq_true (by first | (with_reducible assumption) | assumption)
                have q286 : x14_1 < (l3.length : Int) := of_decide_eq_true (by first | (with_reducible assumption) | assumption)
                obtain ⟨ad286, e286, hx286_0⟩ := Kd.at_int HR3.out x14_1 p286 q286
                have hw286_0 := hx286_0
                obtain rfl : ad285 = ad286 := (by injection e286)
                replace hx286_0 := cB HB hx286_0
                replace p286 := eq_true p286
                replace q286 := eq_true q286
                have p287 : 0 ≤ ((ji24) : Int) := of_decide_eq_true (by first | (with_reducible assumption) | assumption)
                have q287 : (ji24) < (l2.length : Int) := of_decide_eq_true (by first | (with_reducible assumption) | assumption)
                obtain ⟨ad287, e287, hx287_0⟩ := Kd.at_int HR2.out (ji24) p287 q287
                have hw287_0 := hx287_0
                obtain rfl : ad279 = ad287 := (by injection e287)
                replace hx287_0 := cB HB hx287_0
                replace p287 := eq_true p287
                replace q287 := eq_true q287
                refine start_ (n := 25) (S := fun w' => w'.cell? ⟨gb278, 0, none⟩ = some (.int .i64 a0_0) ∧ w'.cell? ⟨gb278, 1, none⟩ = some (.int .i64 a0_1) ∧ w'.cell? ⟨gb278, 2, none⟩ = some (.slice A0_2 l0_2.length c0_2) ∧ w'.cell? (ad285.add ((ji24)).toNat) = some (.int .i64 (rd l3 (ji24))) ∧ w'.cell? (ad285.add (x14_1).toNat) = some (.int .i64 (rd l3 x14_1)) ∧ w'.cell? (ad279.add ((ji24)).toNat) = some (.int .i64 (rd l2 (ji24)))) (ds := []) #[false, false, false, false, false, false, false, false, false, false, false, false, false, false, false, false, false, false, false, false, false, false, false, false, false] (by kernel_rfl) rfl rfl ⟨bc BK278 0, bc BK278 1, bc BK278 2, ((HB.out.cell (World.block_lt_of_cell? w _ hw285_0)).trans hw285_0), ((HB.out.cell (World.block_lt_of_cell? w _ hw286_0)).trans hw286_0), ((HB.out.cell (World.block_lt_of_cell? w _ hw287_0)).trans hw287_0)⟩ (fun hHeld => ?_); refine with_tabW course_possible.tab7 course_possible.bits7 (fun HT_ HW_ => ?_)
                generalize wc.drew = w34 at BK278 BK282 HB hx285_0 hx286_0 hx287_0 hHeld ⊢
                refine pS 0 (some 39) rfl rfl (any_of HT_.out (by kernel_rfl)) (fun _ _ _ h => h) (by rfl) (fun w' => by go_simp; with_reducible rfl) (by simp only [Act.put, List.setIfInBounds_toArray, List.set_cons_zero, List.set_cons_succ, i64_w]; rfl) ?_
                refine pS 1 (some 40) rfl rfl (any_of HT_.out (by kernel_rfl)) (fun _ _ _ h => h) (by rfl) (fun w' => by go_simp; with_reducible rfl) (by simp only [Act.put, List.setIfInBounds_toArray, List.set_cons_zero, List.set_cons_succ, i64_w]; rfl) ?_
                refine pS 2 (some 41) rfl rfl (any_of HT_.out (by kernel_rfl)) (fun _ _ _ h => h) (by rfl) (fun w' => by go_simp; with_reducible rfl) (by simp only [Act.put, List.setIfInBounds_toArray, List.set_cons_zero, List.set_cons_succ, i64_w]; rfl) ?_
                refine pS 3 (some 42) rfl rfl (any_of HT_.out (by kernel_rfl)) (fun _ _ _ h => h) (by rfl) (fun w' => by go_simp; with_reducible rfl) (by simp only [Act.put, List.setIfInBounds_toArray, List.set_cons_zero, List.set_cons_succ, i64_w]; rfl) ?_
                refine pS 4 (some 43) rfl rfl (any_of HT_.out (by kernel_rfl)) (fun _ _ _ h => h) (by rfl) (fun w' => by go_simp; with_reducible rfl) (by simp only [Act.put, List.setIfInBounds_toArray, List.set_cons_zero, List.set_cons_succ, i64_w]; rfl) ?_
                refine pS 5 (some 44) rfl rfl (any_of HT_.out (by kernel_rfl)) (fun _ _ _ h => h) (by rfl) (fun w' => by go_simp; with_reducible rfl) (by simp only [Act.put, List.setIfInBounds_toArray, List.set_cons_zero, List.set_cons_succ, i64_w]; rfl) ?_
                refine pS 6 (some 45) rfl rfl (any_of HT_.out (by kernel_rfl)) (fun _ _ _ h => h) (by rfl) (fun w' => by go_simp; with_reducible rfl) (by simp only [Act.put, List.setIfInBounds_toArray, List.set_cons_zero, List.set_cons_succ, i64_w]; rfl) ?_
                refine pS 8 (some 47) rfl rfl (any_of HT_.out (by kernel_rfl)) (fun _ _ _ h => h) (by rfl) (fun w' => by go_simp; with_reducible rfl) (by simp only [Act.put, List.setIfInBounds_toArray, List.set_cons_zero, List.set_cons_succ, i64_w]; rfl) ?_
                refine pS 9 (some 48) rfl rfl (any_of HT_.out (by kernel_rfl)) (fun _ _ _ h => h) (by rfl) (fun w' => by go_simp; with_reducible rfl) (by simp only [Act.put, List.setIfInBounds_toArray, List.set_cons_zero, List.set_cons_succ, i64_w]; rfl) ?_
                refine pS 10 (some 49) rfl rfl (any_of HT_.out (by kernel_rfl)) (fun _ _ _ h => h) (by rfl) (fun w' => by go_simp; with_reducible rfl) (by simp only [Act.put, List.setIfInBounds_toArray, List.set_cons_zero, List.set_cons_succ, i64_w]; rfl) ?_
                refine pS 12 (some 51) rfl rfl (any_of HT_.out (by kernel_rfl)) (fun _ _ _ h => h) (by rfl) (fun w' => by go_simp; with_reducible rfl) (by simp only [Act.put, List.setIfInBounds_toArray, List.set_cons_zero, List.set_cons_succ, i64_w]; rfl) ?_
                refine pS 14 (some 53) rfl rfl (any_of HT_.out (by kernel_rfl)) (fun _ _ _ h => h) (by rfl) (fun w' => by go_simp; with_reducible rfl) (by simp only [Act.put, List.setIfInBounds_toArray, List.set_cons_zero, List.set_cons_succ, i64_w]; rfl) ?_
                refine pS 15 (some 54) rfl rfl (any_of HT_.out (by kernel_rfl)) (fun _ _ _ h => h) (by rfl) (fun w' => by go_simp; with_reducible rfl) (by simp only [Act.put, List.setIfInBounds_toArray, List.set_cons_zero, List.set_cons_succ, i64_w]; rfl) ?_
                refine pS 16 (some 55) rfl rfl (any_of HT_.out (by kernel_rfl)) (fun _ _ _ h => h) (by rfl) (fun w' => by go_simp; with_reducible rfl) (by simp only [Act.put, List.setIfInBounds_toArray, List.set_cons_zero, List.set_cons_succ, i64_w]; rfl) ?_
                refine pS 17 (some 56) rfl rfl (any_of HT_.out (by kernel_rfl)) (fun _ _ _ h => h) (by rfl) (fun w' => by go_simp; with_reducible rfl) (by simp only [Act.put, List.setIfInBounds_toArray, List.set_cons_zero, List.set_cons_succ, i64_w]; rfl) ?_
                refine pS 18 (some 57) rfl rfl (any_of HT_.out (by kernel_rfl)) (fun _ _ _ h => h) (by rfl) (fun w' => by go_simp; with_reducible rfl) (by simp only [Act.put, List.setIfInBounds_toArray, List.set_cons_zero, List.set_cons_succ, i64_w]; rfl) ?_
                refine tS 7 (some 46) rfl rfl (take_ofW HT_.out HW_.out (by kernel_rfl)) (fun _ _ _ h => h) (by rfl) (by rintro w' ⟨s0, s1, s2, s3, s4, s5⟩; go_simp; with_reducible rfl) hHeld (by simp only [Act.put, List.setIfInBounds_toArray, List.set_cons_zero, List.set_cons_succ, i64_w]; rfl) ?_
                refine tS 11 (some 50) rfl rfl (take_ofW HT_.out HW_.out (by kernel_rfl)) (fun _ _ _ h => h) (by rfl) (by rintro w' ⟨s0, s1, s2, s3, s4, s5⟩; go_simp; with_reducible rfl) hHeld (by simp only [Act.put, List.setIfInBounds_toArray, List.set_cons_zero, List.set_cons_succ, i64_w]; rfl) ?_
                refine tS 13 (some 52) rfl rfl (take_ofW HT_.out HW_.out (by kernel_rfl)) (fun _ _ _ h => h) (by rfl) (by rintro w' ⟨s0, s1, s2, s3, s4, s5⟩; go_simp; with_reducible rfl) hHeld (by simp only [Act.put, List.setIfInBounds_toArray, List.set_cons_zero, List.set_cons_succ, i64_w]; rfl) ?_
                refine tS 19 (some 58) rfl rfl (take_ofW HT_.out HW_.out (by kernel_rfl)) (fun _ _ _ h => h) (by rfl) (by rintro w' ⟨s0, s1, s2, s3, s4, s5⟩; go_simp; with_reducible rfl) hHeld (by simp only [Act.put, List.setIfInBounds_toArray, List.set_cons_zero, List.set_cons_succ, i64_w]; rfl) ?_
                refine pS 20 (some 59) rfl rfl (any_of HT_.out (by kernel_rfl)) (fun _ _ _ h => h) (by rfl) (fun w' => by go_simp; with_reducible rfl) (by simp only [Act.put, List.setIfInBounds_toArray, List.set_cons_zero, List.set_cons_succ, i64_w]; rfl) ?_
                refine pS 21 (some 60) rfl rfl (any_of HT_.out (by kernel_rfl)) (fun _ _ _ h => h) (by rfl) (fun w' => by go_simp; with_reducible rfl) (by simp only [Act.put, List.setIfInBounds_toArray, List.set_cons_zero, List.set_cons_succ, i64_w]; rfl) ?_
                refine one_ (i := 22) (N := some 61) #[true, true, true, true, true, true, true, true, true, true, true, true, true, true, true, true, true, true, true, true, true, true, true, false, false] rfl rfl (one_of HT_.out (by kernel_rfl)) (by decide) (fun K hK => ?_)
                refine goes_ Tryd.func132 (by kernel_rfl) rfl #[.int .i64 (rd l3 (ji24)), .int .i64 (rd l3 x14_1), .int .i64 (wrap64 (a0_1 * (wrap64 ((rd l2 x14_1) - (rd l2 (ji24))))))] (by rfl) rfl rfl (by (try simp only [List.map_toArray, List.map_cons, List.map_nil]); first | done | (simp only [hji24]; rfl) | rfl | (simp only [List.length_drop, List.length_take]; rfl)) ?_
                with_reducible refine (course_within.calls (rd l3 (ji24)) (rd l3 x14_1) (wrap64 (a0_1 * (wrap64 ((rd l2 x14_1) - (rd l2 (ji24)))))) false _ A30.out).mono ?_
                rintro e w35 ⟨rfl, hb⟩
                refine ⟨_, rfl, ?_⟩
                replace BK278 := kB gb278 hb
                replace BK282 := kB gb282 hb
                replace HB := bS w hb
                (try clear hb)
                refine hK.out _ _ ⟨bc BK278 0, bc BK278 1, bc BK278 2, ((HB.out.cell (World.block_lt_of_cell? w _ hw285_0)).trans hw285_0), ((HB.out.cell (World.block_lt_of_cell? w _ hw286_0)).trans hw286_0), ((HB.out.cell (World.block_lt_of_cell? w _ hw287_0)).trans hw287_0)⟩ (fun hHeld => ?_)
                clear hK K
                refine norm_ (a' := ?_) ?_ ?_
                rotate_left
                ·
                 show Act.put _ (some 61) _ = _
                 simp only [Act.put, List.setIfInBounds_toArray, List.set_cons_zero, List.set_cons_succ, i64_w]
                 rfl
                refine pS 23 (some 62) rfl rfl (any_of HT_.out (by kernel_rfl)) (fun _ _ _ h => h) (by rfl) (fun w' => by go_simp; with_reducible rfl) (by simp only [Act.put, List.setIfInBounds_toArray, List.set_cons_zero, List.set_cons_succ, i64_w]; rfl) ?_
                refine pS 24 (some 63) rfl rfl (any_of HT_.out (by kernel_rfl)) (fun _ _ _ h => h) (by rfl) (fun w' => by go_simp; with_reducible rfl) (by simp only [Act.put, List.setIfInBounds_toArray, List.set_cons_zero, List.set_cons_succ, i64_w]; rfl) ?_
                refine done_ (done_of HT_.out (by kernel_rfl)) ?_
                try go_wp2
                go_ret
                exact ⟨by first | rfl | (simp [errW_none, errW_some] <;> rfl) | (simp only [← hji24]; first | rfl | (simp [errW_none, errW_some] <;> rfl)) | (simp [*, errW_none, errW_some] <;> rfl), bw w⟩
              ·
               rw [if_neg c29] at H
               exact absurd H (by simp)
             ·
              rw [if_neg c28] at H
              exact absurd H (by simp)
            ·
             rw [if_neg c27] at H
             exact absurd H (by simp)
           ·
            rw [if_neg c26] at H
            exact absurd H (by simp)
          ·
           rw [if_neg c25] at H
           exact absurd H (by simp)
         ·
          rw [if_neg c23] at H
          have c23b0 : decide (0 < x14_1) = false := decide_eq_false c23
          clear c23
          have H' := Aside0.mk H
          clear H
          try go_wp2
          have n0_ := Bk.mk (blk_drew BK278.out)
          have n1_ := Bk.mk (blk_drew BK282.out)
          have n2_ := Bw.mk (below_drew1 HB.out)
          clear BK278 BK282 HB
          have BK278 := n0_
          have BK282 := n1_
          have HB := n2_
          clear n0_ n1_ n2_
          refine start_ (n := 25) (S := fun w' => True) (ds := []) #[false, false, false, false, false, false, false, false, false, false, false, false, false, false, false, false, false, false, false, false, false, false, false, false, false] (by kernel_rfl) rfl rfl trivial (fun hHeld => ?_); refine with_tabW course_possible.tab7 course_possible.bits7 (fun HT_ HW_ => ?_)
          generalize wc.drew = w36 at BK278 BK282 HB hHeld ⊢
          refine pS 0 (some 39) rfl rfl (any_of HT_.out (by kernel_rfl)) (fun _ _ _ h => h) (by rfl) (fun w' => by go_simp; with_reducible rfl) (by simp only [Act.put, List.setIfInBounds_toArray, List.set_cons_zero, List.set_cons_succ, i64_w]; rfl) ?_
          refine pS 1 (some 40) rfl rfl (any_of HT_.out (by kernel_rfl)) (fun _ _ _ h => h) (by rfl) (fun w' => by go_simp; with_reducible rfl) (by simp only [Act.put, List.setIfInBounds_toArray, List.set_cons_zero, List.set_cons_succ, i64_w]; rfl) ?_
          refine pS 2 (some 41) rfl rfl (any_of HT_.out (by kernel_rfl)) (fun _ _ _ h => h) (by rfl) (fun w' => by go_simp; with_reducible rfl) (by simp only [Act.put, List.setIfInBounds_toArray, List.set_cons_zero, List.set_cons_succ, i64_w]; rfl) ?_
          refine pU 3 (some 42) rfl rfl (any_of HT_.out (by kernel_rfl)) (fun _ _ _ h => h) (by rfl) (by simp only [Act.put, List.setIfInBounds_toArray, List.set_cons_zero, List.set_cons_succ, i64_w]; rfl) ?_
          refine pU 4 (some 43) rfl rfl (any_of HT_.out (by kernel_rfl)) (fun _ _ _ h => h) (by rfl) (by simp only [Act.put, List.setIfInBounds_toArray, List.set_cons_zero, List.set_cons_succ, i64_w]; rfl) ?_
          refine pU 5 (some 44) rfl rfl (any_of HT_.out (by kernel_rfl)) (fun _ _ _ h => h) (by rfl) (by simp only [Act.put, List.setIfInBounds_toArray, List.set_cons_zero, List.set_cons_succ, i64_w]; rfl) ?_
          refine pU 6 (some 45) rfl rfl (any_of HT_.out (by kernel_rfl)) (fun _ _ _ h => h) (by rfl) (by simp only [Act.put, List.setIfInBounds_toArray, List.set_cons_zero, List.set_cons_succ, i64_w]; rfl) ?_
          refine pU 7 (some 46) rfl rfl (any_of HT_.out (by kernel_rfl)) (fun _ _ _ h => h) (by rfl) (by simp only [Act.put, List.setIfInBounds_toArray, List.set_cons_zero, List.set_cons_succ, i64_w]; rfl) ?_
          refine pU 8 (some 47) rfl rfl (any_of HT_.out (by kernel_rfl)) (fun _ _ _ h => h) (by rfl) (by simp only [Act.put, List.setIfInBounds_toArray, List.set_cons_zero, List.set_cons_succ, i64_w]; rfl) ?_
          refine pU 9 (some 48) rfl rfl (any_of HT_.out (by kernel_rfl)) (fun _ _ _ h => h) (by rfl) (by simp only [Act.put, List.setIfInBounds_toArray, List.set_cons_zero, List.set_cons_succ, i64_w]; rfl) ?_
          refine pU 10 (some 49) rfl rfl (any_of HT_.out (by kernel_rfl)) (fun _ _ _ h => h) (by rfl) (by simp only [Act.put, List.setIfInBounds_toArray, List.set_cons_zero, List.set_cons_succ, i64_w]; rfl) ?_
          refine pU 11 (some 50) rfl rfl (any_of HT_.out (by kernel_rfl)) (fun _ _ _ h => h) (by rfl) (by simp only [Act.put, List.setIfInBounds_toArray, List.set_cons_zero, List.set_cons_succ, i64_w]; rfl) ?_
          refine pU 12 (some 51) rfl rfl (any_of HT_.out (by kernel_rfl)) (fun _ _ _ h => h) (by rfl) (by simp only [Act.put, List.setIfInBounds_toArray, List.set_cons_zero, List.set_cons_succ, i64_w]; rfl) ?_
          refine pU 13 (some 52) rfl rfl (any_of HT_.out (by kernel_rfl)) (fun _ _ _ h => h) (by rfl) (by simp only [Act.put, List.setIfInBounds_toArray, List.set_cons_zero, List.set_cons_succ, i64_w]; rfl) ?_
          refine pU 14 (some 53) rfl rfl (any_of HT_.out (by kernel_rfl)) (fun _ _ _ h => h) (by rfl) (by simp only [Act.put, List.setIfInBounds_toArray, List.set_cons_zero, List.set_cons_succ, i64_w]; rfl) ?_
          refine pU 15 (some 54) rfl rfl (any_of HT_.out (by kernel_rfl)) (fun _ _ _ h => h) (by rfl) (by simp only [Act.put, List.setIfInBounds_toArray, List.set_cons_zero, List.set_cons_succ, i64_w]; rfl) ?_
          refine pU 16 (some 55) rfl rfl (any_of HT_.out (by kernel_rfl)) (fun _ _ _ h => h) (by rfl) (by simp only [Act.put, List.setIfInBounds_toArray, List.set_cons_zero, List.set_cons_succ, i64_w]; rfl) ?_
          refine pU 17 (some 56) rfl rfl (any_of HT_.out (by kernel_rfl)) (fun _ _ _ h => h) (by rfl) (by simp only [Act.put, List.setIfInBounds_toArray, List.set_cons_zero, List.set_cons_succ, i64_w]; rfl) ?_
          refine pU 18 (some 57) rfl rfl (any_of HT_.out (by kernel_rfl)) (fun _ _ _ h => h) (by rfl) (by simp only [Act.put, List.setIfInBounds_toArray, List.set_cons_zero, List.set_cons_succ, i64_w]; rfl) ?_
          refine pU 19 (some 58) rfl rfl (any_of HT_.out (by kernel_rfl)) (fun _ _ _ h => h) (by rfl) (by simp only [Act.put, List.setIfInBounds_toArray, List.set_cons_zero, List.set_cons_succ, i64_w]; rfl) ?_
          refine pU 20 (some 59) rfl rfl (any_of HT_.out (by kernel_rfl)) (fun _ _ _ h => h) (by rfl) (by simp only [Act.put, List.setIfInBounds_toArray, List.set_cons_zero, List.set_cons_succ, i64_w]; rfl) ?_
          refine pU 21 (some 60) rfl rfl (any_of HT_.out (by kernel_rfl)) (fun _ _ _ h => h) (by rfl) (by simp only [Act.put, List.setIfInBounds_toArray, List.set_cons_zero, List.set_cons_succ, i64_w]; rfl) ?_
          refine pU 22 (some 61) rfl rfl (any_of HT_.out (by kernel_rfl)) (fun _ _ _ h => h) (by rfl) (by simp only [Act.put, List.setIfInBounds_toArray, List.set_cons_zero, List.set_cons_succ, i64_w]; rfl) ?_
          refine pU 23 (some 62) rfl rfl (any_of HT_.out (by kernel_rfl)) (fun _ _ _ h => h) (by rfl) (by simp only [Act.put, List.setIfInBounds_toArray, List.set_cons_zero, List.set_cons_succ, i64_w]; rfl) ?_
          refine pS 24 (some 63) rfl rfl (any_of HT_.out (by kernel_rfl)) (fun _ _ _ h => h) (by rfl) (fun w' => by go_simp; with_reducible rfl) (by simp only [Act.put, List.setIfInBounds_toArray, List.set_cons_zero, List.set_cons_succ, i64_w]; rfl) ?_
          refine done_ (done_of HT_.out (by kernel_rfl)) ?_
          try go_wp2
          go_roundg kj9
          case measure => have := HK1.out; have := HJ9.out; omega
          case rel => exact ⟨(wrap64 (x14_1 + 1)), (by first | rfl | (simp; done) | (simp [*]; done)), H', ⟨by have := HK1.out; have := HJ9.out; omega⟩, inferInstance, inferInstance⟩
     ·
      rw [if_neg c8] at H
      exact absurd H (by simp)
    ·
     rw [if_neg c7] at H
     exact absurd H (by simp)
   ·
    rw [if_neg c6] at H
    have c6b0 : decide (x14_1 < (l2.length : Int)) = false := decide_eq_false c6
    clear c6
    obtain rfl := Option.some.inj H
    go_wp2
    go_ret
    exact ⟨by first | rfl | (simp [errW_none, errW_some] <;> rfl) | (simp [*, errW_none, errW_some] <;> rfl), bw w⟩
mutual
def course_Extend.j0 : Nat → Int → List Int → List Int → List Int → Bool → Int → Int → List (S26) → Option (List Int × Bool × Int)
 | 0, _, _, _, _, _, _, _, _ => none
 | k + 1, x1, x2, x3, x4, x41, x290000, x290001, x290002 => if x41 = true then (some (([] : List Int), false, 1)) else ((course_possible.f k x290000 x290001 x290002 x1 x2 x3).bind fun t296 => (if t296 = true then (course_Extend.l0 k x1 x2 x3 ([] : List Int) x4 (x4.length : Int) 0 x290000 x290001 x290002) else (some (([] : List Int), false, 0))))
def course_Extend.l0 : Nat → Int → List Int → List Int → List Int → List Int → Int → Int → Int → Int → List (S26) → Option (List Int × Bool × Int)
 | 0, _, _, _, _, _, _, _, _, _, _ => none
 | k + 1, x1, x2, x3, x14, x48, x49, x50, x290000, x290001, x290002 => if x50 < x49 then (if 0 ≤ x50 then (if x50 < (x48.length : Int) then ((course_drift.f k x290000 x290001 x290002 (rd x48 x50) x1).bind fun bt298 => (course_Extend.l1 k x1 x2 x3 x14 (rd x48 x50) bt298.2 x48 x49 x50 x2 (x2.length : Int) 0 x290000 x290001 x290002)) else (none)) else (none)) else (some (x14, true, 0))
def course_Extend.l1 : Nat → Int → List Int → List Int → List Int → Int → Int → List Int → Int → Int → List Int → Int → Int → Int → Int → List (S26) → Option (List Int × Bool × Int)
 | 0, _, _, _, _, _, _, _, _, _, _, _, _, _, _, _ => none
 | k + 1, x1, x2, x3, x14, x16, x17, x48, x49, x50, x59, x60, x61, x290000, x290001, x290002 => if x61 < x60 then (if 0 ≤ x61 then (if x61 < (x59.length : Int) then (if x61 < (x3.length : Int) then ((course_apart.f (rd x59 x61) x16).bind fun t302 => (course_Extend.l1 k x1 x2 x3 x14 x16 (mn x17 (wrap64 ((rd x3 x61) + (wrap64 (x290001 * t302))))) x48 x49 x50 x59 x60 (wrap64 (x61 + 1)) x290000 x290001 x290002)) else (none)) else (none)) else (none)) else (if x14.length < 17592186044416 then (course_Extend.l0 k x1 x2 x3 (x14 ++ [x17]) x48 x49 (wrap64 (x50 + 1)) x290000 x290001 x290002) else (none))
end
def course_Extend.f (k : Nat) (a0_0 : Int) (a0_1 : Int) (l0_2 : List (S26)) (a1 : Int) (l2 : List Int) (l3 : List Int) (l4 : List Int) : Option (List Int × Bool × Int) := (course_ask.f k a0_0 a0_1 l0_2 (([a1] : List Int))).bind fun t293 => (if t293 = 0 then (if (l2.length : Int) = (l3.length : Int) then ((course_rising.f k l2).bind fun t294 => (if t294 = true then ((course_rising.f k l4).bind fun t295 => (course_Extend.j0 k a1 l2 l3 l4 (!t295) a0_0 a0_1 l0_2)) else (course_Extend.j0 k a1 l2 l3 l4 true a0_0 a0_1 l0_2))) else (course_Extend.j0 k a1 l2 l3 l4 true a0_0 a0_1 l0_2)) else (some (([] : List Int), false, t293)))
theorem course_Extend.mono_l : ∀ k, (∀ y0 y1 y2 y3 y4 y5 y6 y7, LeO (course_Extend.j0 k y0 y1 y2 y3 y4 y5 y6 y7) (course_Extend.j0 (k + 1) y0 y1 y2 y3 y4 y5 y6 y7)) ∧ (∀ y0 y1 y2 y3 y4 y5 y6 y7 y8 y9, LeO (course_Extend.l0 k y0 y1 y2 y3 y4 y5 y6 y7 y8 y9) (course_Extend.l0 (k + 1) y0 y1 y2 y3 y4 y5 y6 y7 y8 y9)) ∧ (∀ y0 y1 y2 y3 y4 y5 y6 y7 y8 y9 y10 y11 y12 y13 y14, LeO (course_Extend.l1 k y0 y1 y2 y3 y4 y5 y6 y7 y8 y9 y10 y11 y12 y13 y14) (course_Extend.l1 (k + 1) y0 y1 y2 y3 y4 y5 y6 y7 y8 y9 y10 y11 y12 y13 y14))
 | 0 => ⟨fun _ _ _ _ _ _ _ _ r h => by simp [course_Extend.j0] at h, fun _ _ _ _ _ _ _ _ _ _ r h => by simp [course_Extend.l0] at h, fun _ _ _ _ _ _ _ _ _ _ _ _ _ _ _ r h => by simp [course_Extend.l1] at h⟩
 | k + 1 => by
  obtain ⟨ih0, ih1, ih2⟩ := course_Extend.mono_l k
  refine ⟨?_, ?_, ?_⟩
  ·
   intro y0 y1 y2 y3 y4 y5 y6 y7
   unfold course_Extend.j0
   repeat' first
   | (with_reducible exact ih0 _ _ _ _ _ _ _ _)
   | (with_reducible exact ih1 _ _ _ _ _ _ _ _ _ _)
   | (with_reducible exact ih2 _ _ _ _ _ _ _ _ _ _ _ _ _ _ _)
   | (with_reducible exact course_ask.mono _ _ _ _ _)
   | (with_reducible exact course_drift.mono _ _ _ _ _ _)
   | (with_reducible exact course_possible.mono _ _ _ _ _ _ _)
   | (with_reducible exact course_rising.mono _ _)
   | (with_reducible exact LeO.refl _)
   | (with_reducible exact LeO.none _)
   | (with_reducible refine LeO.ite ?_ ?_)
   | (with_reducible refine LeO.bind ?_ (fun _ => ?_))
   | exact ih0 _ _ _ _ _ _ _ _
   | exact ih1 _ _ _ _ _ _ _ _ _ _
   | exact ih2 _ _ _ _ _ _ _ _ _ _ _ _ _ _ _
   | exact course_ask.mono _ _ _ _ _
   | exact course_drift.mono _ _ _ _ _ _
   | exact course_possible.mono _ _ _ _ _ _ _
   | exact course_rising.mono _ _
   | exact LeO.none _
   | refine LeO.ite ?_ ?_
   | refine LeO.bind ?_ (fun _ => ?_)
  ·
   intro y0 y1 y2 y3 y4 y5 y6 y7 y8 y9
   unfold course_Extend.l0
   repeat' first
   | (with_reducible exact ih0 _ _ _ _ _ _ _ _)
   | (with_reducible exact ih1 _ _ _ _ _ _ _ _ _ _)
   | (with_reducible exact ih2 _ _ _ _ _ _ _ _ _ _ _ _ _ _ _)
   | (with_reducible exact course_ask.mono _ _ _ _ _)
   | (with_reducible exact course_drift.mono _ _ _ _ _ _)
   | (with_reducible exact course_possible.mono _ _ _ _ _ _ _)
   | (with_reducible exact course_rising.mono _ _)
   | (with_reducible exact LeO.refl _)
   | (with_reducible exact LeO.none _)
   | (with_reducible refine LeO.ite ?_ ?_)
   | (with_reducible refine LeO.bind ?_ (fun _ => ?_))
   | exact ih0 _ _ _ _ _ _ _ _
   | exact ih1 _ _ _ _ _ _ _ _ _ _
   | exact ih2 _ _ _ _ _ _ _ _ _ _ _ _ _ _ _
   | exact course_ask.mono _ _ _ _ _
   | exact course_drift.mono _ _ _ _ _ _
   | exact course_possible.mono _ _ _ _ _ _ _
   | exact course_rising.mono _ _
   | exact LeO.none _
   | refine LeO.ite ?_ ?_
   | refine LeO.bind ?_ (fun _ => ?_)
  ·
   intro y0 y1 y2 y3 y4 y5 y6 y7 y8 y9 y10 y11 y12 y13 y14
   unfold course_Extend.l1
   repeat' first
   | (with_reducible exact ih0 _ _ _ _ _ _ _ _)
   | (with_reducible exact ih1 _ _ _ _ _ _ _ _ _ _)
   | (with_reducible exact ih2 _ _ _ _ _ _ _ _ _ _ _ _ _ _ _)
   | (with_reducible exact course_ask.mono _ _ _ _ _)
   | (with_reducible exact course_drift.mono _ _ _ _ _ _)
   | (with_reducible exact course_possible.mono _ _ _ _ _ _ _)
   | (with_reducible exact course_rising.mono _ _)
   | (with_reducible exact LeO.refl _)
   | (with_reducible exact LeO.none _)
   | (with_reducible refine LeO.ite ?_ ?_)
   | (with_reducible refine LeO.bind ?_ (fun _ => ?_))
   | exact ih0 _ _ _ _ _ _ _ _
   | exact ih1 _ _ _ _ _ _ _ _ _ _
   | exact ih2 _ _ _ _ _ _ _ _ _ _ _ _ _ _ _
   | exact course_ask.mono _ _ _ _ _
   | exact course_drift.mono _ _ _ _ _ _
   | exact course_possible.mono _ _ _ _ _ _ _
   | exact course_rising.mono _ _
   | exact LeO.none _
   | refine LeO.ite ?_ ?_
   | refine LeO.bind ?_ (fun _ => ?_)
theorem course_Extend.mono : ∀ a0 a1 a2 a3 a4 a5 a6 k, LeO (course_Extend.f k a0 a1 a2 a3 a4 a5 a6) (course_Extend.f (k + 1) a0 a1 a2 a3 a4 a5 a6) := by
 intro a0 a1 a2 a3 a4 a5 a6 k
 obtain ⟨ih0, ih1, ih2⟩ := course_Extend.mono_l k
 unfold course_Extend.f
 repeat' first
   | (with_reducible exact ih0 _ _ _ _ _ _ _ _)
   | (with_reducible exact ih1 _ _ _ _ _ _ _ _ _ _)
   | (with_reducible exact ih2 _ _ _ _ _ _ _ _ _ _ _ _ _ _ _)
   | (with_reducible exact course_ask.mono _ _ _ _ _)
   | (with_reducible exact course_drift.mono _ _ _ _ _ _)
   | (with_reducible exact course_possible.mono _ _ _ _ _ _ _)
   | (with_reducible exact course_rising.mono _ _)
   | (with_reducible exact LeO.refl _)
   | (with_reducible exact LeO.none _)
   | (with_reducible refine LeO.ite ?_ ?_)
   | (with_reducible refine LeO.bind ?_ (fun _ => ?_))
   | exact ih0 _ _ _ _ _ _ _ _
   | exact ih1 _ _ _ _ _ _ _ _ _ _
   | exact ih2 _ _ _ _ _ _ _ _ _ _ _ _ _ _ _
   | exact course_ask.mono _ _ _ _ _
   | exact course_drift.mono _ _ _ _ _ _
   | exact course_possible.mono _ _ _ _ _ _ _
   | exact course_rising.mono _ _
   | exact LeO.none _
   | refine LeO.ite ?_ ?_
   | refine LeO.bind ?_ (fun _ => ?_)
def course_Extend.T16 : Bool × List (List Nat × List Nat) := (true, [([], []), ([], []), ([], []), ([1, 2], [1, 2]), ([3], [3]), ([], []), ([5], [5]), ([], []), ([], []), ([7, 8], [7, 8]), ([6, 9], [6, 9]), ([4, 10], [4, 10]), ([0, 11], [0, 11]), ([12, 9, 0, 1, 2, 3, 4, 5, 6, 7, 8, 9, 10, 11, 12], [0, 12])])
def course_Extend.B16 : List Nat := [0, 0, 0, 6, 14, 0, 32, 0, 0, 384, 992, 2046, 4095, 8191]
theorem course_Extend.tab16 : rtab .any (opsOf Tryd.f35 16) = course_Extend.T16 := by kernel_rfl
theorem course_Extend.bits16 : waitsOk course_Extend.T16.2 course_Extend.B16 = true := by kernel_rfl
set_option maxHeartbeats 8000000 in
set_option maxRecDepth 100000 in
theorem course_Extend.calls (k : Nat) (a0_0 : Int) (a0_1 : Int) (A0_2 : Option Addr) (c0_2 : Nat) (l0_2 : List (S26)) (a1 : Int) (A2 : Option Addr) (c2 : Nat) (l2 : List Int) (A3 : Option Addr) (c3 : Nat) (l3 : List Int) (A4 : Option Addr) (c4 : Nat) (l4 : List Int) (r1 : List Int) (r2 : Bool) (r3 : Int) (w : World) (hr0_2 : Kd.C k26 w A0_2 l0_2.length l0_2) (hc0_2 : l0_2.length ≤ c0_2) (hr2 : Kd.C (Kd.int .i64) w A2 l2.length l2) (hc2 : l2.length ≤ c2) (hr3 : Kd.C (Kd.int .i64) w A3 l3.length l3) (hc3 : l3.length ≤ c3) (hr4 : Kd.C (Kd.int .i64) w A4 l4.length l4) (hc4 : l4.length ≤ c4) (h : course_Extend.f k a0_0 a0_1 l0_2 a1 l2 l3 l4 = some (r1, r2, r3)) :
  Calls Tryd.prog 35 #[.agg #[.int .i64 a0_0, .int .i64 a0_1, .slice A0_2 l0_2.length c0_2], .int .i64 a1, .slice A2 l2.length c2, .slice A3 l3.length c3, .slice A4 l4.length c4] w fun e w' => ∃ v0_ : Value, e = .returned (.tuple #[v0_, .bool r2, .int .i64 r3]) ∧ Kd.R (Kd.int .i64) 3 w' w.heap.size (fun _ => True) v0_ r1 ∧ Below w.heap.size w w' := by
 have hu24 := Tryd.underlying24
 have HR0_2 := Aside0.mk (hr0_2)
 have HC0_2 := Aside0.mk (hc0_2)
 clear hr0_2 hc0_2
 have HR2 := Aside0.mk (hr2)
 have HC2 := Aside0.mk (hc2)
 clear hr2 hc2
 have HR3 := Aside0.mk (hr3)
 have HC3 := Aside0.mk (hc3)
 clear hr3 hc3
 have HR4 := Aside0.mk (hr4)
 have HC4 := Aside0.mk (hc4)
 clear hr4 hc4
 have HB := Bw.mk (Below.refl w.heap.size w)
 have H : ((course_ask.f k a0_0 a0_1 l0_2 (([a1] : List Int))).bind fun t293 => (if t293 = 0 then (if (l2.length : Int) = (l3.length : Int) then ((course_rising.f k l2).bind fun t294 => (if t294 = true then ((course_rising.f k l4).bind fun t295 => (course_Extend.j0 k a1 l2 l3 l4 (!t295) a0_0 a0_1 l0_2)) else (course_Extend.j0 k a1 l2 l3 l4 true a0_0 a0_1 l0_2))) else (course_Extend.j0 k a1 l2 l3 l4 true a0_0 a0_1 l0_2)) else (some (([] : List Int), false, t293)))) = some (r1, r2, r3) := h
 clear h
 obtain ⟨y290, hy290⟩ : ∃ y_ : List Int, y_ = (([a1] : List Int)) := ⟨_, rfl⟩
 replace H : ((course_ask.f k a0_0 a0_1 l0_2 y290).bind fun t293 => (if t293 = 0 then (if (l2.length : Int) = (l3.length : Int) then ((course_rising.f k l2).bind fun t294 => (if t294 = true then ((course_rising.f k l4).bind fun t295 => (course_Extend.j0 k a1 l2 l3 l4 (!t295) a0_0 a0_1 l0_2)) else (course_Extend.j0 k a1 l2 l3 l4 true a0_0 a0_1 l0_2))) else (course_Extend.j0 k a1 l2 l3 l4 true a0_0 a0_1 l0_2)) else (some (([] : List Int), false, t293)))) = some (r1, r2, r3) := by first | (rw [hy290]; with_reducible exact H) | (have H2_ := (Option.bind_some _ _).symm.trans H; rw [hy290]; with_reducible exact H2_) | (have H2_ := (Option.bind_some _ _).symm.trans H; with_reducible exact H2_) | with_reducible exact H | (rw [hy290]; exact H) | exact H
 have Ny290 := Aside0.mk (hy290)
 clear hy290
 replace H := Option.bind_eq_some_iff.mp H
 obtain ⟨t293, A60, H⟩ := H
 have A6 := Aside0.mk (A60)
 clear A60
 by_cases c7 : t293 = 0
 ·
  rw [if_pos c7] at H
  have c7b0 : (t293 == 0) = true := beq_iff_eq.mpr c7
  have c7b1 : (t293 != 0) = false := bne_eq_false_iff_eq.mpr c7
  clear c7
  have HC8 := Aside0.mk (H)
  clear H
  go_enter Tryd.func35, Tryd.ntmps35
  go_upto_region 4 with (first | ((with_reducible refine gate_dst (N := 5) rfl ?_); refine bxE 5 24 #[.int .i64 a0_0, .int .i64 a0_1, .slice A0_2 l0_2.length c0_2] (by rfl) (by rfl) (by first | (go_simp; done) | (go_simp; rfl)) ?_; intro gb289 hg w9 hbox hb; have BK289 := Bk.mk (hbox); have GE289 := eB w hg; replace HB := bS w hb; clear hb hbox hg; obtain ⟨hcz10_0, hcz10_1, hcz10_2, hfz10_0, hfz10_1, hfz10_2⟩ := cz3 BK289) | ((with_reducible refine gate_dst (N := 22) rfl ?_); refine Kd.R_lit (Kd.int .i64) _ 3 ?hg (N := 22) ?hd (xs := ([a1] : List Int)) (inner := [.int .i64 a1]) (ok := fun _ => True) (okp := fun _ => True) ?hr ?hp (fun _ hk => hk) trivial (Below.refl _ _) (Nat.le_refl _) (by simp) ?_; (case hd => rfl); (case hg => rfl); (case hr => first | (go_simp; done) | (go_simp; rfl)); (case hp => exact (Reps.one (show Kd.M (Kd.int .i64) _ _ _ a1 [.int .i64 a1] from rfl) (Reps.none _ _))); intro v291 w11 ho12 hb hg_ hnew_; clear hg_ hnew_; (first | rw [← Ny290.out] at ho12 | (simp only [Int.reduceToNat] at ho12; rw [← Ny290.out] at ho12)); have n0_ := Aside0.mk (Kd.R_lower ho12 (bz w)); replace BK289 := kB gb289 hb; replace HB := bS w hb; have HO292 := n0_; clear n0_ hb ho12; obtain ⟨Ao13, co13, eo13⟩ := Kd.R_slice HO292.out; subst eo13) | ((with_reducible refine gate_callee (f := 76) rfl ?_); refine goesLM (some 23) rfl rfl Tryd.func76 (by kernel_rfl) rfl #[.agg #[.int .i64 a0_0, .int .i64 a0_1, .slice A0_2 l0_2.length c0_2], .slice Ao13 y290.length co13] rfl (by rfl) ?_; (with_reducible refine (course_ask.calls k a0_0 a0_1 _ _ l0_2 _ _ y290 t293 _ ?side1 ?side2 ?side3 ?side4 A6.out).mono ?_); (case side1 => exact cP (Kd.C_below HR0_2.out HB.out)); (case side2 => exact HC0_2.out); (case side3 => exact cP (Kd.R_reads' HO292.out).2.2); (case side4 => exact (Kd.R_reads' HO292.out).2.1); rintro e w14 ⟨rfl, hb⟩; refine ⟨_, rfl, ?_⟩; replace HO292 := rB HO292 hb; replace BK289 := kB gb289 hb; replace HB := bS w hb; (try clear hb)))
  (try simp only [Act.put, List.setIfInBounds_toArray, List.set_cons_zero, List.set_cons_succ])
  go_cut [41] (fun v41 wc => ∃ (kq : Nat) (x41_7 : Bool), v41 = .bool x41_7 ∧ Aside0 (course_Extend.j0 kq a1 l2 l3 l4 x41_7 a0_0 a0_1 l0_2 = some (r1, r2, r3)) ∧ Aside0 (kq ≤ k) ∧ Bk wc gb289 (.cells #[.int .i64 a0_0, .int .i64 a0_1, (.slice A0_2 l0_2.length c0_2)] 24 (0, 0)) ∧ Bw w wc)
  case first =>
   have H := HC8.out
   clear HC8
   by_cases c15 : (l2.length : Int) = (l3.length : Int)
   ·
    rw [if_pos c15] at H
    have c15b0 : ((l2.length : Int) == (l3.length : Int)) = true := beq_iff_eq.mpr c15
    have c15b1 : ((l2.length : Int) != (l3.length : Int)) = false := bne_eq_false_iff_eq.mpr c15
    have c15b2 : (l2.length == l3.length) = true := by first | simpa using c15 | (simp at c15 ⊢; omega)
    clear c15
    (first | rw [c15b0] | (simp only [i64_w]; rw [c15b0]) | skip)
    replace H := Option.bind_eq_some_iff.mp H
    obtain ⟨t294, A160, H⟩ := H
    have A16 := Aside0.mk (A160)
    clear A160
    by_cases c17 : t294 = true
    ·
     subst c17
     rw [if_pos rfl] at H
     replace H := Option.bind_eq_some_iff.mp H
     obtain ⟨t295, A180, H⟩ := H
     have A18 := Aside0.mk (A180)
     clear A180
     have H' := Aside0.mk H
     clear H
     go_wp2_with (first | (go_at_call 97; (with_reducible refine (course_rising.calls k _ _ l2 true _ ?side1 ?side2 A16.out).mono ?_); (case side1 => exact cP (Kd.C_below HR2.out HB.out)); (case side2 => exact HC2.out); rintro e w' ⟨rfl, ⟨nd, rfl⟩⟩) | (go_at_call 97; (with_reducible refine (course_rising.calls k _ _ l4 t295 _ ?side1 ?side2 A18.out).mono ?_); (case side1 => exact (Kd.C_below HR4.out (bw w))); (case side2 => exact HC4.out); rintro e w' ⟨rfl, ⟨nd, rfl⟩⟩))
     go_meet
     case rel => exact ⟨_, (!t295), (by first | rfl | (simp; done) | (simp [*]; done)), H', ⟨by first | omega | exact Nat.le_refl _⟩, inferInstance, inferInstance⟩
    ·
     replace c17 := Bool.eq_false_iff.mpr c17
     subst c17
     rw [if_neg (show ¬ (false = true) by decide)] at H
     have H' := Aside0.mk H
     clear H
     go_wp2_with (first | (go_at_call 97; (with_reducible refine (course_rising.calls k _ _ l2 false _ ?side1 ?side2 A16.out).mono ?_); (case side1 => exact cP (Kd.C_below HR2.out HB.out)); (case side2 => exact HC2.out); rintro e w' ⟨rfl, ⟨nd, rfl⟩⟩))
     go_meet
     case rel => exact ⟨_, (true), (by first | rfl | (simp; done) | (simp [*]; done)), H', ⟨by first | omega | exact Nat.le_refl _⟩, inferInstance, inferInstance⟩
   ·
    rw [if_neg c15] at H
    have c15b0 : ((l2.length : Int) == (l3.length : Int)) = false := beq_eq_false_iff_ne.mpr c15
    have c15b1 : ((l2.length : Int) != (l3.length : Int)) = true := bne_iff_ne.mpr c15
    have c15b2 : (l2.length == l3.length) = false := by first | simpa using c15 | (simp at c15 ⊢; omega)
    (first | rw [c15b0] | (simp only [i64_w]; rw [c15b0]) | skip)
    have H' := Aside0.mk H
    clear H
    go_wp2
    go_meet
    case rel => exact ⟨_, (true), (by first | rfl | (simp; done) | (simp [*]; done)), H', ⟨by first | omega | exact Nat.le_refl _⟩, inferInstance, inferInstance⟩
  case rest =>
   clear HC8
   try clear c1
   try clear c2
   try clear p2
   try clear c3
   try clear c4
   try clear c7
   try clear c7b0
   try clear c7b1
   try clear c15
   try clear c15b0
   try clear c15b1
   try clear c15b2
   try clear c17
   obtain ⟨kq, x41_7, rfl, HA, HJ7, BK289, HB⟩ := hcut
   cases kq with
   | zero => exact absurd HA.out (by simp [course_Extend.j0])
   | succ kj7 =>
    have H := HA.out
    clear HA
    simp only [course_Extend.j0] at H
    by_cases c19 : x41_7 = true
    ·
     subst c19
     rw [if_pos rfl] at H
     simp only [Option.some.injEq, Prod.mk.injEq] at H
     obtain ⟨rfl, rfl, rfl⟩ := H
     go_wp2
     go_ret3
     exact ⟨_, by first | rfl | (simp [errW_none, errW_some] <;> rfl) | (simp [*, errW_none, errW_some] <;> rfl), by first | exact Kd.R_nil _ _ _ _ _ | exact Kd.N_nil _ _ _ _ _ | exact Kd.V_nil _ _ _ _ _ | exact Kd.Q_nil _ _ _ _ _ | exact Kd.S_nil _ _ _ _ _, bw w⟩
    ·
     replace c19 := Bool.eq_false_iff.mpr c19
     subst c19
     rw [if_neg (show ¬ (false = true) by decide)] at H
     replace H := Option.bind_eq_some_iff.mp H
     obtain ⟨t296, A200, H⟩ := H
     have A20 := Aside0.mk (A200)
     clear A200
     by_cases c21 : t296 = true
     ·
      subst c21
      rw [if_pos rfl] at H
      have H' := Aside0.mk H
      clear H
      obtain ⟨hcz22_0, hcz22_1, hcz22_2, hfz22_0, hfz22_1, hfz22_2⟩ := cz3 BK289
      go_wp2_with (first | ((with_reducible refine gate_callee (f := 98) rfl ?_); refine goesLM (some 46) rfl rfl Tryd.func98 (by kernel_rfl) rfl #[.agg #[.int .i64 a0_0, .int .i64 a0_1, .slice A0_2 l0_2.length c0_2], .int .i64 a1, .slice A2 l2.length c2, .slice A3 l3.length c3] rfl (by rfl) ?_; (with_reducible refine (course_possible.calls kj7 a0_0 a0_1 _ _ l0_2 a1 _ _ l2 _ _ l3 true _ ?side1 ?side2 ?side3 ?side4 ?side5 ?side6 A20.out).mono ?_); (case side1 => exact cP (Kd.C_below HR0_2.out HB.out)); (case side2 => exact HC0_2.out); (case side3 => exact cP (Kd.C_below HR2.out HB.out)); (case side4 => exact HC2.out); (case side5 => exact cP (Kd.C_below HR3.out HB.out)); (case side6 => exact HC3.out); rintro e w23 ⟨rfl, hb⟩; refine ⟨_, rfl, ?_⟩; replace BK289 := kB gb289 hb; replace HB := bS w hb; (try clear hb)))
      go_loopg [14, 50] kj7 (fun kq v14 v50 w' => ∃ (x14_2 : List Int) (x50_2 : Int), v50 = .int .i64 x50_2 ∧ Aside0 (course_Extend.l0 kq a1 l2 l3 x14_2 l4 (l4.length : Int) x50_2 a0_0 a0_1 l0_2 = some (r1, r2, r3)) ∧ Aside0 (kq ≤ kj7) ∧ Aside0 (Kd.R (Kd.int .i64) 3 w' w.heap.size (fun _ => True) v14 x14_2) ∧ Bk w' gb289 (.cells #[.int .i64 a0_0, .int .i64 a0_1, (.slice A0_2 l0_2.length c0_2)] 24 (0, 0)) ∧ Bw w w')
      case atStart => exact ⟨(([] : List Int)), (0), (by first | rfl | (simp; done) | (simp [*]; done)), H', ⟨Nat.le_refl _⟩, ⟨by first | exact Kd.R_nil _ _ _ _ _ | exact Kd.N_nil _ _ _ _ _ | exact Kd.V_nil _ _ _ _ _ | exact Kd.Q_nil _ _ _ _ _ | exact Kd.S_nil _ _ _ _ _⟩, inferInstance, inferInstance⟩
      case round =>
       clear H'
       try clear c1
       try clear c2
       try clear p2
       try clear c3
       try clear c4
       try clear c7
       try clear c7b0
       try clear c7b1
       try clear c9
       try clear c15
       try clear c15b0
       try clear c15b1
       try clear c15b2
       try clear c17
       try clear c19
       try clear c21
       try clear p2
       obtain ⟨x14_2, x50_2, rfl, HA, HK2, HO_14, BK289, HB⟩ := hrel
       cases gk with
       | zero => exact absurd HA.out (by simp [course_Extend.l0])
       | succ k2 =>
        have H := HA.out
        clear HA
        simp only [course_Extend.l0] at H
        by_cases c24 : x50_2 < (l4.length : Int)
        ·
         rw [if_pos c24] at H
         have c24b0 : decide (x50_2 < (l4.length : Int)) = true := decide_eq_true c24
         clear c24
         by_cases c25 : 0 ≤ x50_2
         ·
          rw [if_pos c25] at H
          have c25b0 : decide (0 ≤ x50_2) = true := decide_eq_true c25
          clear c25
          by_cases c26 : x50_2 < (l4.length : Int)
          ·
           rw [if_pos c26] at H
           have c26b0 : decide (x50_2 < (l4.length : Int)) = true := decide_eq_true c26
           clear c26
           replace H := Option.bind_eq_some_iff.mp H
           obtain ⟨⟨t298, t299⟩, A270, H⟩ := H
           have A27 := Aside0.mk (A270)
           clear A270
           have H' := Aside0.mk H
           clear H
           have p297 : 0 ≤ (x50_2 : Int) := of_decide_eq_true (by first | (with_reducible assumption) | assumption)
           have q297 : x50_2 < (l4.length : Int) := of_decide_eq_true (by first | (with_reducible assumption) | assumption)
           obtain ⟨ad297, e297, hx297_0⟩ := Kd.at_int HR4.out x50_2 p297 q297
           cases e297
           replace hx297_0 := cB HB hx297_0
           replace p297 := eq_true p297
           replace q297 := eq_true q297
           obtain ⟨hcz28_0, hcz28_1, hcz28_2, hfz28_0, hfz28_1, hfz28_2⟩ := cz3 BK289
           go_wp2_with (first | ((with_reducible refine gate_callee (f := 77) rfl ?_); refine goesLM (some 57) rfl rfl Tryd.func77 (by kernel_rfl) rfl #[.agg #[.int .i64 a0_0, .int .i64 a0_1, .slice A0_2 l0_2.length c0_2], .int .i64 (rd l4 x50_2), .int .i64 a1] rfl (by rfl) ?_; (with_reducible refine (course_drift.calls k2 a0_0 a0_1 _ _ l0_2 (rd l4 x50_2) a1 t298 t299 _ ?side1 ?side2 A27.out).mono ?_); (case side1 => exact cP (Kd.C_below HR0_2.out HB.out)); (case side2 => exact HC0_2.out); rintro e w29 ⟨rfl, hb⟩; refine ⟨_, rfl, ?_⟩; replace HO_14 := rB HO_14 hb; replace BK289 := kB gb289 hb; replace HB := bS w hb; (try clear hb)))
           go_loopg [17, 61] k2 (fun kq v17 v61 w' => ∃ (x17_3 : Int) (x61_3 : Int), v17 = .int .i64 x17_3 ∧ v61 = .int .i64 x61_3 ∧ Aside0 (course_Extend.l1 kq a1 l2 l3 x14_2 (rd l4 x50_2) x17_3 l4 (l4.length : Int) x50_2 l2 (l2.length : Int) x61_3 a0_0 a0_1 l0_2 = some (r1, r2, r3)) ∧ Aside0 (kq ≤ k2) ∧ Aside0 (Kd.R (Kd.int .i64) 3 w' w.heap.size (fun _ => True) u14 x14_2) ∧ Bk w' gb289 (.cells #[.int .i64 a0_0, .int .i64 a0_1, (.slice A0_2 l0_2.length c0_2)] 24 (0, 0)) ∧ Bw w w')
           case atStart => exact ⟨(t299), (0), (by first | rfl | (simp; done) | (simp [*]; done)), (by first | rfl | (simp; done) | (simp [*]; done)), H', ⟨Nat.le_refl _⟩, ⟨by (with_reducible repeat (first | apply Kd.R_alloc | apply Kd.R_drewN | apply Kd.R_drew)); exact HO_14.out⟩, inferInstance, inferInstance⟩
           case round =>
            clear H'
            try clear c1
            try clear c2
            try clear p2
            try clear q2
            try clear hx2
            try clear c3
            try clear c4
            try clear c7
            try clear c7b0
            try clear c7b1
            try clear c9
            try clear c15
            try clear c15b0
            try clear c15b1
            try clear c15b2
            try clear c17
            try clear c19
            try clear c21
            try clear c24
            try clear c24b0
            try clear c25
            try clear c25b0
            try clear c26
            try clear c26b0
            try clear p29
            try clear q29
            try clear hx29
            try clear hx297_0
            try clear p2
            try clear p297
            try clear q297
            obtain ⟨x17_3, x61_3, rfl, rfl, HA, HK3, HO_14, BK289, HB⟩ := hrel
            cases gk with
            | zero => exact absurd HA.out (by simp [course_Extend.l1])
            | succ k3 =>
             have H := HA.out
             clear HA
             simp only [course_Extend.l1] at H
             by_cases c30 : x61_3 < (l2.length : Int)
             ·
              rw [if_pos c30] at H
              have c30b0 : decide (x61_3 < (l2.length : Int)) = true := decide_eq_true c30
              clear c30
              by_cases c31 : 0 ≤ x61_3
              ·
               rw [if_pos c31] at H
               have c31b0 : decide (0 ≤ x61_3) = true := decide_eq_true c31
               clear c31
               by_cases c32 : x61_3 < (l2.length : Int)
               ·
                rw [if_pos c32] at H
                have c32b0 : decide (x61_3 < (l2.length : Int)) = true := decide_eq_true c32
                clear c32
                by_cases c33 : x61_3 < (l3.length : Int)
                ·
                 rw [if_pos c33] at H
                 have c33b0 : decide (x61_3 < (l3.length : Int)) = true := decide_eq_true c33
                 clear c33
                 replace H := Option.bind_eq_some_iff.mp H
                 obtain ⟨t302, A340, H⟩ := H
                 have A34 := Aside0.mk (A340)
                 clear A340
                 obtain ⟨ji35, hji35⟩ : ∃ j_ : Int, (mn x17_3 (wrap64 ((rd l3 x61_3) + (wrap64 (a0_1 * t302))))) = j_ := ⟨_, rfl⟩
                 replace H : (course_Extend.l1 k3 a1 l2 l3 x14_2 (rd l4 x50_2) ji35 l4 (l4.length : Int) x50_2 l2 (l2.length : Int) (wrap64 (x61_3 + 1)) a0_0 a0_1 l0_2) = some (r1, r2, r3) := by first | (rw [hji35] at H; exact H) | (simp only [hji35] at H ⊢; exact H)
                 (try rw [hji35] at A34)
                 have hji35_ : (if (wrap64 ((rd l3 x61_3) + (wrap64 (a0_1 * t302)))) < x17_3 then (wrap64 ((rd l3 x61_3) + (wrap64 (a0_1 * t302)))) else x17_3) = ji35 := hji35
                 have H' := Aside0.mk H
                 clear H
                 have p300 : 0 ≤ (x61_3 : Int) := of_decide_eq_true (by first | (with_reducible assumption) | assumption)
                 have q300 : x61_3 < (l2.length : Int) := of_decide_eq_true (by first | (with_reducible assumption) | assumption)
                 obtain ⟨ad300, e300, hx300_0⟩ := Kd.at_int HR2.out x61_3 p300 q300
                 cases e300
                 replace hx300_0 := cB HB hx300_0
                 replace p300 := eq_true p300
                 replace q300 := eq_true q300
                 try go_wp2
                 have n0_ := Aside0.mk (Kd.R_drew HO_14.out)
                 have n1_ := Bk.mk (blk_drew BK289.out)
                 have n2_ := Bw.mk (below_drew1 HB.out)
                 clear HO_14 BK289 HB
                 have HO_14 := n0_
                 have BK289 := n1_
                 have HB := n2_
                 clear n0_ n1_ n2_
                 have p301 : 0 ≤ (x61_3 : Int) := of_decide_eq_true (by first | (with_reducible assumption) | assumption)
                 have q301 : x61_3 < (l3.length : Int) := of_decide_eq_true (by first | (with_reducible assumption) | assumption)
                 obtain ⟨ad301, e301, hx301_0⟩ := Kd.at_int HR3.out x61_3 p301 q301
                 have hw301_0 := hx301_0
                 cases e301
                 replace hx301_0 := cB HB hx301_0
                 replace p301 := eq_true p301
                 replace q301 := eq_true q301
                 refine start_ (n := 14) (S := fun w' => w'.cell? ⟨gb289, 0, none⟩ = some (.int .i64 a0_0) ∧ w'.cell? ⟨gb289, 1, none⟩ = some (.int .i64 a0_1) ∧ w'.cell? ⟨gb289, 2, none⟩ = some (.slice A0_2 l0_2.length c0_2) ∧ w'.cell? (ad301.add (x61_3).toNat) = some (.int .i64 (rd l3 x61_3))) (ds := []) #[false, false, false, false, false, false, false, false, false, false, false, false, false, false] (by kernel_rfl) rfl rfl ⟨bc BK289 0, bc BK289 1, bc BK289 2, ((HB.out.cell (World.block_lt_of_cell? w _ hw301_0)).trans hw301_0)⟩ (fun hHeld => ?_); refine with_tabW course_Extend.tab16 course_Extend.bits16 (fun HT_ HW_ => ?_)
                 generalize wr.drew = w36 at HO_14 BK289 HB hx301_0 hHeld ⊢
                 refine pS 0 (some 66) rfl rfl (any_of HT_.out (by kernel_rfl)) (fun _ _ _ h => h) (by rfl) (fun w' => by go_simp; with_reducible rfl) (by simp only [Act.put, List.setIfInBounds_toArray, List.set_cons_zero, List.set_cons_succ, i64_w]; rfl) ?_
                 refine pS 1 (some 67) rfl rfl (any_of HT_.out (by kernel_rfl)) (fun _ _ _ h => h) (by rfl) (fun w' => by go_simp; with_reducible rfl) (by simp only [Act.put, List.setIfInBounds_toArray, List.set_cons_zero, List.set_cons_succ, i64_w]; rfl) ?_
                 refine pS 2 (some 68) rfl rfl (any_of HT_.out (by kernel_rfl)) (fun _ _ _ h => h) (by rfl) (fun w' => by go_simp; with_reducible rfl) (by simp only [Act.put, List.setIfInBounds_toArray, List.set_cons_zero, List.set_cons_succ, i64_w]; rfl) ?_
                 refine pS 3 (some 69) rfl rfl (any_of HT_.out (by kernel_rfl)) (fun _ _ _ h => h) (by rfl) (fun w' => by go_simp; with_reducible rfl) (by simp only [Act.put, List.setIfInBounds_toArray, List.set_cons_zero, List.set_cons_succ, i64_w]; rfl) ?_
                 refine pS 5 (some 71) rfl rfl (any_of HT_.out (by kernel_rfl)) (fun _ _ _ h => h) (by rfl) (fun w' => by go_simp; with_reducible rfl) (by simp only [Act.put, List.setIfInBounds_toArray, List.set_cons_zero, List.set_cons_succ, i64_w]; rfl) ?_
                 refine pS 7 (some 73) rfl rfl (any_of HT_.out (by kernel_rfl)) (fun _ _ _ h => h) (by rfl) (fun w' => by go_simp; with_reducible rfl) (by simp only [Act.put, List.setIfInBounds_toArray, List.set_cons_zero, List.set_cons_succ, i64_w]; rfl) ?_
                 refine pS 8 (some 74) rfl rfl (any_of HT_.out (by kernel_rfl)) (fun _ _ _ h => h) (by rfl) (fun w' => by go_simp; with_reducible rfl) (by simp only [Act.put, List.setIfInBounds_toArray, List.set_cons_zero, List.set_cons_succ, i64_w]; rfl) ?_
                 refine tS 4 (some 70) rfl rfl (take_ofW HT_.out HW_.out (by kernel_rfl)) (fun _ _ _ h => h) (by rfl) (by rintro w' ⟨s0, s1, s2, s3⟩; go_simp; with_reducible rfl) hHeld (by simp only [Act.put, List.setIfInBounds_toArray, List.set_cons_zero, List.set_cons_succ, i64_w]; rfl) ?_
                 refine tS 6 (some 72) rfl rfl (take_ofW HT_.out HW_.out (by kernel_rfl)) (fun _ _ _ h => h) (by rfl) (by rintro w' ⟨s0, s1, s2, s3⟩; go_simp; with_reducible rfl) hHeld (by simp only [Act.put, List.setIfInBounds_toArray, List.set_cons_zero, List.set_cons_succ, i64_w]; rfl) ?_
                 refine one_ (i := 9) (N := some 75) #[true, true, true, true, true, true, true, true, true, true, false, false, false, false] rfl rfl (one_of HT_.out (by kernel_rfl)) (by decide) (fun K hK => ?_)
                 refine goesM Tryd.func101 (by kernel_rfl) rfl #[.int .i64 (rd l2 x61_3), .int .i64 (rd l4 x50_2)] (by rfl) rfl rfl (by rfl) ?_
                 with_reducible refine (course_apart.calls (rd l2 x61_3) (rd l4 x50_2) t302 _ A34.out).mono ?_
                 rintro e w37 ⟨rfl, hb⟩
                 refine ⟨_, rfl, ?_⟩
                 replace HO_14 := rB HO_14 hb
                 replace BK289 := kB gb289 hb
                 replace HB := bS w hb
                 (try clear hb)
                 refine hK.out _ _ ⟨bc BK289 0, bc BK289 1, bc BK289 2, ((HB.out.cell (World.block_lt_of_cell? w _ hw301_0)).trans hw301_0)⟩ (fun hHeld => ?_)
                 clear hK K
                 refine norm_ (a' := ?_) ?_ ?_
                 rotate_left
                 ·
                  show Act.put _ (some 75) _ = _
                  simp only [Act.put, List.setIfInBounds_toArray, List.set_cons_zero, List.set_cons_succ, i64_w]
                  rfl
                 refine pS 10 (some 76) rfl rfl (any_of HT_.out (by kernel_rfl)) (fun _ _ _ h => h) (by rfl) (fun w' => by go_simp; with_reducible rfl) (by simp only [Act.put, List.setIfInBounds_toArray, List.set_cons_zero, List.set_cons_succ, i64_w]; rfl) ?_
                 refine pS 11 (some 77) rfl rfl (any_of HT_.out (by kernel_rfl)) (fun _ _ _ h => h) (by rfl) (fun w' => by go_simp; with_reducible rfl) (by simp only [Act.put, List.setIfInBounds_toArray, List.set_cons_zero, List.set_cons_succ, i64_w]; rfl) ?_
                 refine pS 12 (some 78) rfl rfl (any_of HT_.out (by kernel_rfl)) (fun _ _ _ h => h) (by rfl) (fun w' => by go_simp; with_reducible rfl) (by simp only [Act.put, List.setIfInBounds_toArray, List.set_cons_zero, List.set_cons_succ, i64_w]; rfl) ?_
                 refine pS 13 (some 17) rfl rfl (any_of HT_.out (by kernel_rfl)) (fun _ _ _ h => h) (by rfl) (fun w' => by go_simp; with_reducible rfl) (by simp only [Act.put, List.setIfInBounds_toArray, List.set_cons_zero, List.set_cons_succ, i64_w]; rfl) ?_
                 refine done_ (done_of HT_.out (by kernel_rfl)) ?_
                 try go_wp2
                 go_roundg k3
                 case measure => have := HJ7.out; have := HK2.out; have := HK3.out; omega
                 case rel => exact ⟨(ji35), (wrap64 (x61_3 + 1)), (by first | rfl | (simp; done) | (simp only [← hji35] <;> (first | rfl | simp)) | (simp [*]; done)), (by first | rfl | (simp; done) | (simp [*]; done)), H', ⟨by have := HJ7.out; have := HK2.out; have := HK3.out; omega⟩, ⟨by (with_reducible repeat (first | apply Kd.R_alloc | apply Kd.R_drewN | apply Kd.R_drew)); exact HO_14.out⟩, inferInstance, inferInstance⟩
                ·
                 rw [if_neg c33] at H
                 exact absurd H (by simp)
               ·
                rw [if_neg c32] at H
                exact absurd H (by simp)
              ·
               rw [if_neg c31] at H
               exact absurd H (by simp)
             ·
              rw [if_neg c30] at H
              have c30b0 : decide (x61_3 < (l2.length : Int)) = false := decide_eq_false c30
              clear c30
              by_cases c38 : x14_2.length < 17592186044416
              ·
               rw [if_pos c38] at H
               have LMc38 := Aside0.mk (c38)
               clear c38
               obtain ⟨y303, hy303⟩ : ∃ y_ : List Int, y_ = (x14_2 ++ [x17_3]) := ⟨_, rfl⟩
               replace H : (course_Extend.l0 k3 a1 l2 l3 y303 l4 (l4.length : Int) (wrap64 (x50_2 + 1)) a0_0 a0_1 l0_2) = some (r1, r2, r3) := by first | (rw [hy303]; with_reducible exact H) | (have H2_ := (Option.bind_some _ _).symm.trans H; rw [hy303]; with_reducible exact H2_) | (have H2_ := (Option.bind_some _ _).symm.trans H; with_reducible exact H2_) | with_reducible exact H | (rw [hy303]; exact H) | exact H
               have Ny303 := Aside0.mk (hy303)
               clear hy303
               have H' := Aside0.mk H
               clear H
               go_wp2_with (first | ((with_reducible refine gate_builtin (b := .append) (xs := #[.tmp 80, .tmp 82]) rfl ?_); at_builtin; refine Kd.R_append (Kd.int .i64) (w0 := w) w.heap.size rfl (.tmp 80) (.tmp 82) 51 3 (.int .i64 0) 8 rfl Tryd.underlying51 info3 rfl (by decide) (by omega) u14 x14_2 x17_3 [.int .i64 x17_3] (fun _ => True) (fun _ => False) rfl rfl ?aP (fun _ hk => hk.elim) ?aF ?aO ?aB ?aS ?aL ?_; (case aP => exact rfl); (case aB => exact (bw w)); (case aF => exact (fun _ _ => trivial)); (case aO => exact (by (with_reducible repeat (first | apply Kd.R_alloc | apply Kd.R_drewN | apply Kd.R_drew)); exact HO_14.out)); (case aS => exact (bz w)); (case aL => have := LMc38.out; omega); intro v304 w39 ho hb hg hat; rw [← Ny303.out] at ho; have n0_ := Bk.mk (blk_grown (g := gb289) (o := .cells #[.int .i64 a0_0, .int .i64 a0_1, .slice A0_2 l0_2.length c0_2] 24 (0, 0)) (bk _ gb289) hg (Kd.R_ne HO_14.out BK289.out (by decide))); have n1_ := Bw.mk (hb); have n2_ := Aside0.mk (ho); clear BK289 HB HO_14; have BK289 := n0_; have HB := n1_; have HO305 := n2_; clear n0_ n1_ n2_ ho hb hg hat))
               go_roundg k3
               case measure => have := HJ7.out; have := HK2.out; have := HK3.out; omega
               case rel => exact ⟨(y303), (wrap64 (x50_2 + 1)), (by first | rfl | (simp; done) | (simp [*]; done)), H', ⟨by have := HJ7.out; have := HK2.out; have := HK3.out; omega⟩, ⟨by (with_reducible repeat (first | apply Kd.R_alloc | apply Kd.R_drewN | apply Kd.R_drew)); exact HO305.out⟩, inferInstance, inferInstance⟩
              ·
               rw [if_neg c38] at H
               exact absurd H (by simp)
          ·
           rw [if_neg c26] at H
           exact absurd H (by simp)
         ·
          rw [if_neg c25] at H
          exact absurd H (by simp)
        ·
         rw [if_neg c24] at H
         have c24b0 : decide (x50_2 < (l4.length : Int)) = false := decide_eq_false c24
         clear c24
         simp only [Option.some.injEq, Prod.mk.injEq] at H
         obtain ⟨rfl, rfl, rfl⟩ := H
         go_wp2
         go_ret3
         exact ⟨_, by first | rfl | (simp [errW_none, errW_some] <;> rfl) | (simp [*, errW_none, errW_some] <;> rfl), by (with_reducible repeat (first | apply Kd.R_alloc | apply Kd.R_drewN | apply Kd.R_drew)); exact HO_14.out, bw w⟩
     ·
      replace c21 := Bool.eq_false_iff.mpr c21
      subst c21
      rw [if_neg (show ¬ (false = true) by decide)] at H
      simp only [Option.some.injEq, Prod.mk.injEq] at H
      obtain ⟨rfl, rfl, rfl⟩ := H
      obtain ⟨hcz40_0, hcz40_1, hcz40_2, hfz40_0, hfz40_1, hfz40_2⟩ := cz3 BK289
      go_wp2_with (first | ((with_reducible refine gate_callee (f := 98) rfl ?_); refine goesLM (some 46) rfl rfl Tryd.func98 (by kernel_rfl) rfl #[.agg #[.int .i64 a0_0, .int .i64 a0_1, .slice A0_2 l0_2.length c0_2], .int .i64 a1, .slice A2 l2.length c2, .slice A3 l3.length c3] rfl (by rfl) ?_; (with_reducible refine (course_possible.calls kj7 a0_0 a0_1 _ _ l0_2 a1 _ _ l2 _ _ l3 false _ ?side1 ?side2 ?side3 ?side4 ?side5 ?side6 A20.out).mono ?_); (case side1 => exact cP (Kd.C_below HR0_2.out HB.out)); (case side2 => exact HC0_2.out); (case side3 => exact cP (Kd.C_below HR2.out HB.out)); (case side4 => exact HC2.out); (case side5 => exact cP (Kd.C_below HR3.out HB.out)); (case side6 => exact HC3.out); rintro e w41 ⟨rfl, hb⟩; refine ⟨_, rfl, ?_⟩; replace BK289 := kB gb289 hb; replace HB := bS w hb; (try clear hb)))
      go_ret3
      exact ⟨_, by first | rfl | (simp [errW_none, errW_some] <;> rfl) | (simp [*, errW_none, errW_some] <;> rfl), by first | exact Kd.R_nil _ _ _ _ _ | exact Kd.N_nil _ _ _ _ _ | exact Kd.V_nil _ _ _ _ _ | exact Kd.Q_nil _ _ _ _ _ | exact Kd.S_nil _ _ _ _ _, bw w⟩
 ·
  rw [if_neg c7] at H
  have c7b0 : (t293 == 0) = false := beq_eq_false_iff_ne.mpr c7
  have c7b1 : (t293 != 0) = true := bne_iff_ne.mpr c7
  simp only [Option.some.injEq, Prod.mk.injEq] at H
  obtain ⟨rfl, rfl, rfl⟩ := H
  go_enter Tryd.func35, Tryd.ntmps35
  go_wp2_with (first | ((with_reducible refine gate_dst (N := 5) rfl ?_); refine bxE 5 24 #[.int .i64 a0_0, .int .i64 a0_1, .slice A0_2 l0_2.length c0_2] (by rfl) (by rfl) (by first | (go_simp; done) | (go_simp; rfl)) ?_; intro gb289 hg w42 hbox hb; have BK289 := Bk.mk (hbox); have GE289 := eB w hg; replace HB := bS w hb; clear hb hbox hg; obtain ⟨hcz43_0, hcz43_1, hcz43_2, hfz43_0, hfz43_1, hfz43_2⟩ := cz3 BK289) | ((with_reducible refine gate_dst (N := 22) rfl ?_); refine Kd.R_lit (Kd.int .i64) _ 3 ?hg (N := 22) ?hd (xs := ([a1] : List Int)) (inner := [.int .i64 a1]) (ok := fun _ => True) (okp := fun _ => True) ?hr ?hp (fun _ hk => hk) trivial (Below.refl _ _) (Nat.le_refl _) (by simp) ?_; (case hd => rfl); (case hg => rfl); (case hr => first | (go_simp; done) | (go_simp; rfl)); (case hp => exact (Reps.one (show Kd.M (Kd.int .i64) _ _ _ a1 [.int .i64 a1] from rfl) (Reps.none _ _))); intro v291 w44 ho45 hb hg_ hnew_; clear hg_ hnew_; (first | rw [← Ny290.out] at ho45 | (simp only [Int.reduceToNat] at ho45; rw [← Ny290.out] at ho45)); have n0_ := Aside0.mk (Kd.R_lower ho45 (bz w)); replace BK289 := kB gb289 hb; replace HB := bS w hb; have HO292 := n0_; clear n0_ hb ho45; obtain ⟨Ao46, co46, eo46⟩ := Kd.R_slice HO292.out; subst eo46) | ((with_reducible refine gate_callee (f := 76) rfl ?_); refine goesLM (some 23) rfl rfl Tryd.func76 (by kernel_rfl) rfl #[.agg #[.int .i64 a0_0, .int .i64 a0_1, .slice A0_2 l0_2.length c0_2], .slice Ao46 y290.length co46] rfl (by rfl) ?_; (with_reducible refine (course_ask.calls k a0_0 a0_1 _ _ l0_2 _ _ y290 t293 _ ?side1 ?side2 ?side3 ?side4 A6.out).mono ?_); (case side1 => exact cP (Kd.C_below HR0_2.out HB.out)); (case side2 => exact HC0_2.out); (case side3 => exact cP (Kd.R_reads' HO292.out).2.2); (case side4 => exact (Kd.R_reads' HO292.out).2.1); rintro e w47 ⟨rfl, hb⟩; refine ⟨_, rfl, ?_⟩; replace HO292 := rB HO292 hb; replace BK289 := kB gb289 hb; replace HB := bS w hb; (try clear hb)))
  go_ret3
  exact ⟨_, by first | rfl | (simp [errW_none, errW_some] <;> rfl) | (simp [*, errW_none, errW_some] <;> rfl), by first | exact Kd.R_nil _ _ _ _ _ | exact Kd.N_nil _ _ _ _ _ | exact Kd.V_nil _ _ _ _ _ | exact Kd.Q_nil _ _ _ _ _ | exact Kd.S_nil _ _ _ _ _, bw w⟩
end Go.Proofs.YtapijkdgkajoeaaDoor.PF
end
