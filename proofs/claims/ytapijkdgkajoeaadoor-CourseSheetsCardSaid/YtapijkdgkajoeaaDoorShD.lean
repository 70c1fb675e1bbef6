/- For every input, with the program's own tables laid as its text lays them, the law CourseSheets returns true and leaves its arguments as they read; no condition. Part 4 of 6. -/
import Derived.Test.YtapijkdgkajoeaaDoorShC
section
namespace Go.Proofs.YtapijkdgkajoeaaDoor.PF
open Go.RowKit Go.Proofs.YtapijkdgkajoeaaDoorW.PrintWords Go.Proofs.YtapijkdgkajoeaaDoorW.PrintLast Go.Proofs.YtapijkdgkajoeaaDoorW.PrintMore
attribute [local go_sem] max2_int min2_int max_two min_two
set_option linter.unusedVariables false
set_option linter.unusedSimpArgs false
attribute [local go_sem high] ixA103_1
def course_core.f (a0_0 : Int) (a0_1 : Int) (a0_2 : Int) (a0_3 : Int) (a0_4 : Int) (a0_5 : Int) (a0_6 : Int) (a0_7 : Int) (l0_8 : List (S71)) (a1_0 : Int) (a1_1 : Int) (a1_2 : Int) (a1_3 : Int) (a1_4 : Int) (a2_0 : Int) (a2_1 : Int) : Option (Int × Int) := some (mx 0 (wrap64 ((wrap64 ((wrap64 (a1_2 - a0_6)) - a2_1)) - a1_4)), wrap64 ((wrap64 (a1_2 - a0_6)) - a2_0))
set_option maxHeartbeats 8000000 in
set_option maxRecDepth 100000 in
theorem course_core.calls (a0_0 : Int) (a0_1 : Int) (a0_2 : Int) (a0_3 : Int) (a0_4 : Int) (a0_5 : Int) (a0_6 : Int) (a0_7 : Int) (A0_8 : Option Addr) (c0_8 : Nat) (l0_8 : List (S71)) (a1_0 : Int) (a1_1 : Int) (a1_2 : Int) (a1_3 : Int) (a1_4 : Int) (a2_0 : Int) (a2_1 : Int) (r1 : Int) (r2 : Int) (w : World) (hr0_8 : Kd.C k71 w A0_8 l0_8.length l0_8) (hc0_8 : l0_8.length ≤ c0_8) (h : course_core.f a0_0 a0_1 a0_2 a0_3 a0_4 a0_5 a0_6 a0_7 l0_8 a1_0 a1_1 a1_2 a1_3 a1_4 a2_0 a2_1 = some (r1, r2)) :
  Calls Tryd.prog 82 #[.agg #[.int .i64 a0_0, .int .i64 a0_1, .int .i64 a0_2, .int .i64 a0_3, .int .i64 a0_4, .int .i64 a0_5, .int .i64 a0_6, .int .i64 a0_7, .slice A0_8 l0_8.length c0_8], .agg #[.int .i64 a1_0, .int .i64 a1_1, .int .i64 a1_2, .int .i64 a1_3, .int .i64 a1_4], .agg #[.int .i64 a2_0, .int .i64 a2_1]] w fun e w' => e = .returned (.agg #[.int .i64 r1, .int .i64 r2]) ∧ Below w.heap.size w w' := by
 have hu47 := Tryd.underlying47
 have hu71 := Tryd.underlying71
 have hu103 := Tryd.underlying103
 have HR0_8 := Aside0.mk (hr0_8)
 have HC0_8 := Aside0.mk (hc0_8)
 clear hr0_8 hc0_8
 have HB := Bw.mk (Below.refl w.heap.size w)
 have H : (some (mx 0 (wrap64 ((wrap64 ((wrap64 (a1_2 - a0_6)) - a2_1)) - a1_4)), wrap64 ((wrap64 (a1_2 - a0_6)) - a2_0))) = some (r1, r2) := h
 clear h
 obtain ⟨ji4, hji4⟩ : ∃ j_ : Int, (mx 0 (wrap64 ((wrap64 ((wrap64 (a1_2 - a0_6)) - a2_1)) - a1_4))) = j_ := ⟨_, rfl⟩
 replace H : (some (ji4, wrap64 ((wrap64 (a1_2 - a0_6)) - a2_0))) = some (r1, r2) := by first | (rw [hji4] at H; exact H) | (simp only [hji4] at H ⊢; exact H)
 (try (have hji4l : 0 ≤ ji4 := by (rw [← hji4]; unfold mx; (repeat' split) <;> omega)))
 (try (have hji4m : 0 ≤ ji4 := by omega))
 have hji4_ : (if 0 < (wrap64 ((wrap64 ((wrap64 (a1_2 - a0_6)) - a2_1)) - a1_4)) then (wrap64 ((wrap64 ((wrap64 (a1_2 - a0_6)) - a2_1)) - a1_4)) else 0) = ji4 := hji4
 simp only [Option.some.injEq, Prod.mk.injEq] at H
 obtain ⟨rfl, rfl⟩ := H
 go_enter Tryd.func82, Tryd.ntmps82
 go_wp2_with (first | ((with_reducible refine gate_dst (N := 3) rfl ?_); refine bxE 3 47 #[.int .i64 a0_0, .int .i64 a0_1, .int .i64 a0_2, .int .i64 a0_3, .int .i64 a0_4, .int .i64 a0_5, .int .i64 a0_6, .int .i64 a0_7, .slice A0_8 l0_8.length c0_8] (by rfl) (by rfl) (by first | (go_simp; done) | (go_simp; rfl)) ?_; intro gb242 hg w5 hbox hb; have BK242 := Bk.mk (hbox); have GE242 := eB w hg; replace HB := bS w hb; clear hb hbox hg) | ((with_reducible refine gate_dst (N := 4) rfl ?_); refine bxE 4 71 #[.int .i64 a1_0, .int .i64 a1_1, .int .i64 a1_2, .int .i64 a1_3, .int .i64 a1_4] (by rfl) (by rfl) (by first | (go_simp; done) | (go_simp; rfl)) ?_; intro gb243 hg w6 hbox hb; have BK243 := Bk.mk (hbox); have GE243 := eB w hg; have NB242_243 := nB gb242 hg; replace BK242 := kB gb242 hb; replace HB := bS w hb; clear hb hbox hg) | ((with_reducible refine gate_dst (N := 5) rfl ?_); refine bxE 5 103 #[.int .i64 a2_0, .int .i64 a2_1] (by rfl) (by rfl) (by first | (go_simp; done) | (go_simp; rfl)) ?_; intro gb244 hg w7 hbox hb; have BK244 := Bk.mk (hbox); have GE244 := eB w hg; have NB242_244 := nB gb242 hg; have NB243_244 := nB gb243 hg; replace BK242 := kB gb242 hb; replace BK243 := kB gb243 hb; replace HB := bS w hb; clear hb hbox hg) | ((with_reducible refine gate_dst (N := 6) rfl ?_); refine bxE 6 103 #[.int .i64 0, .int .i64 0] (by rfl) (by rfl) (by first | (go_simp; done) | (go_simp; rfl)) ?_; intro gb245 hg w8 hbox hb; have BK245 := Bk.mk (hbox); have GE245 := eB w hg; have NB242_245 := nB gb242 hg; have NB243_245 := nB gb243 hg; have NB244_245 := nB gb244 hg; replace BK242 := kB gb242 hb; replace BK243 := kB gb243 hb; replace BK244 := kB gb244 hb; replace HB := bS w hb; clear hb hbox hg; obtain ⟨hnc9, hnb9⟩ := nn NB242_243; obtain ⟨hnb10, hnc10⟩ := nn NB243_244; obtain ⟨hnb11, hnc11⟩ := nn NB243_245; obtain ⟨hcz12_0, hcz12_1, hcz12_2, hcz12_3, hcz12_4, hfz12_0, hfz12_1, hfz12_2, hfz12_3, hfz12_4⟩ := cz5 BK243; obtain ⟨hnb13, hnc13⟩ := nn NB242_244; obtain ⟨hnb14, hnc14⟩ := nn NB242_245; obtain ⟨hcz15_0, hcz15_1, hcz15_2, hcz15_3, hcz15_4, hcz15_5, hcz15_6, hcz15_7, hcz15_8, hfz15_0, hfz15_1, hfz15_2, hfz15_3, hfz15_4, hfz15_5, hfz15_6, hfz15_7, hfz15_8⟩ := cz9 BK242; obtain ⟨hnb16, hnc16⟩ := nn NB244_245; obtain ⟨hcz17_0, hcz17_1, hfz17_0, hfz17_1⟩ := cz2 BK244; obtain ⟨hcz18_0, hcz18_1, hfz18_0, hfz18_1⟩ := cz2 BK245))
 all_goals (refine bodyPost_ret (results_cell_row rfl _ _ gb245 103 #[.int .i64 ji4, .int .i64 (wrap64 ((wrap64 (a1_2 - a0_6)) - a2_0))] (0, 0) _ rfl (bko gb245 (by rfl)) Tryd.underlying103 rfl (by kernel_rfl)) rfl ?_; exact ⟨by first | rfl | (simp [errW_none, errW_some] <;> rfl) | (simp only [← hji4]; first | rfl | (simp [errW_none, errW_some] <;> rfl)) | (simp [*, errW_none, errW_some] <;> rfl), bw w⟩)
def course_Core.f (k : Nat) (a0_0 : Int) (a0_1 : Int) (l0_2 : List (S26)) (a1_0 : Int) (a1_1 : Int) (a1_2 : Int) (a1_3 : Int) (a1_4 : Int) (a1_5 : Int) (a1_6 : Int) (a1_7 : Int) (l1_8 : List (S71)) (a2 : Int) (a3 : Int) : Option (Int × Int × Int) := (course_look.f k a0_0 a0_1 l0_2 a1_0 a1_1 a1_2 a1_3 a1_4 a1_5 a1_6 a1_7 l1_8 a2 a3).bind fun bt249 => (if bt249.2.2 = 0 then (if 0 ≤ a2 then (if a2 < (l1_8.length : Int) then ((course_core.f a1_0 a1_1 a1_2 a1_3 a1_4 a1_5 a1_6 a1_7 l1_8 ((rd_T71 l1_8 a2).f0) ((rd_T71 l1_8 a2).f1) ((rd_T71 l1_8 a2).f2) ((rd_T71 l1_8 a2).f3) ((rd_T71 l1_8 a2).f4) bt249.1 bt249.2.1).bind fun bt254 => (some (bt254.1, bt254.2, 0))) else (none)) else (none)) else (some (0, 0, bt249.2.2)))
theorem course_Core.mono : ∀ a0 a1 a2 a3 a4 a5 a6 a7 a8 a9 a10 a11 a12 a13 k, LeO (course_Core.f k a0 a1 a2 a3 a4 a5 a6 a7 a8 a9 a10 a11 a12 a13) (course_Core.f (k + 1) a0 a1 a2 a3 a4 a5 a6 a7 a8 a9 a10 a11 a12 a13) := by
 intro a0 a1 a2 a3 a4 a5 a6 a7 a8 a9 a10 a11 a12 a13 k
 unfold course_Core.f
 repeat' first
   | (with_reducible exact course_look.mono _ _ _ _ _ _ _ _ _ _ _ _ _ _ _)
   | (with_reducible exact LeO.refl _)
   | (with_reducible exact LeO.none _)
   | (with_reducible refine LeO.ite ?_ ?_)
   | (with_reducible refine LeO.bind ?_ (fun _ => ?_))
   | exact course_look.mono _ _ _ _ _ _ _ _ _ _ _ _ _ _ _
   | exact LeO.none _
   | refine LeO.ite ?_ ?_
   | refine LeO.bind ?_ (fun _ => ?_)
def course_Core.T4 : Bool × List (List Nat × List Nat) := (true, [([], []), ([], []), ([1], [1]), ([], []), ([2, 3], [2, 3]), ([4], [4]), ([], []), ([0, 5, 6], [0, 5, 6]), ([], []), ([8, 7, 7, 0, 1, 2, 3, 4, 5, 6, 7, 8], [7, 8])])
def course_Core.B4 : List Nat := [0, 0, 2, 0, 14, 30, 0, 127, 0, 511]
theorem course_Core.tab4 : rtab .any (opsOf Tryd.f27 4) = course_Core.T4 := by kernel_rfl
theorem course_Core.bits4 : waitsOk course_Core.T4.2 course_Core.B4 = true := by kernel_rfl
set_option maxHeartbeats 8000000 in
set_option maxRecDepth 100000 in
theorem course_Core.calls (k : Nat) (a0_0 : Int) (a0_1 : Int) (A0_2 : Option Addr) (c0_2 : Nat) (l0_2 : List (S26)) (a1_0 : Int) (a1_1 : Int) (a1_2 : Int) (a1_3 : Int) (a1_4 : Int) (a1_5 : Int) (a1_6 : Int) (a1_7 : Int) (A1_8 : Option Addr) (c1_8 : Nat) (l1_8 : List (S71)) (a2 : Int) (a3 : Int) (r1 : Int) (r2 : Int) (r3 : Int) (w : World) (hr0_2 : Kd.C k26 w A0_2 l0_2.length l0_2) (hc0_2 : l0_2.length ≤ c0_2) (hr1_8 : Kd.C k71 w A1_8 l1_8.length l1_8) (hc1_8 : l1_8.length ≤ c1_8) (h : course_Core.f k a0_0 a0_1 l0_2 a1_0 a1_1 a1_2 a1_3 a1_4 a1_5 a1_6 a1_7 l1_8 a2 a3 = some (r1, r2, r3)) :
  Calls Tryd.prog 27 #[.agg #[.int .i64 a0_0, .int .i64 a0_1, .slice A0_2 l0_2.length c0_2], .agg #[.int .i64 a1_0, .int .i64 a1_1, .int .i64 a1_2, .int .i64 a1_3, .int .i64 a1_4, .int .i64 a1_5, .int .i64 a1_6, .int .i64 a1_7, .slice A1_8 l1_8.length c1_8], .int .i64 a2, .int .i64 a3] w fun e w' => e = .returned (.tuple #[.agg #[.int .i64 r1, .int .i64 r2], .int .i64 r3]) ∧ Below w.heap.size w w' := by
 have hu24 := Tryd.underlying24
 have hu47 := Tryd.underlying47
 have hu40 := Tryd.underlying40
 have hu103 := Tryd.underlying103
 have hu71 := Tryd.underlying71
 have HR0_2 := Aside0.mk (hr0_2)
 have HC0_2 := Aside0.mk (hc0_2)
 clear hr0_2 hc0_2
 have HR1_8 := Aside0.mk (hr1_8)
 have HC1_8 := Aside0.mk (hc1_8)
 clear hr1_8 hc1_8
 have HB := Bw.mk (Below.refl w.heap.size w)
 have H : ((course_look.f k a0_0 a0_1 l0_2 a1_0 a1_1 a1_2 a1_3 a1_4 a1_5 a1_6 a1_7 l1_8 a2 a3).bind fun bt249 => (if bt249.2.2 = 0 then (if 0 ≤ a2 then (if a2 < (l1_8.length : Int) then ((course_core.f a1_0 a1_1 a1_2 a1_3 a1_4 a1_5 a1_6 a1_7 l1_8 ((rd_T71 l1_8 a2).f0) ((rd_T71 l1_8 a2).f1) ((rd_T71 l1_8 a2).f2) ((rd_T71 l1_8 a2).f3) ((rd_T71 l1_8 a2).f4) bt249.1 bt249.2.1).bind fun bt254 => (some (bt254.1, bt254.2, 0))) else (none)) else (none)) else (some (0, 0, bt249.2.2)))) = some (r1, r2, r3) := h
 clear h
 replace H := Option.bind_eq_some_iff.mp H
 obtain ⟨⟨t249, t250, t251⟩, A50, H⟩ := H
 have A5 := Aside0.mk (A50)
 clear A50
 by_cases c6 : t251 = 0
 ·
  rw [if_pos c6] at H
  have c6b0 : (t251 == 0) = true := beq_iff_eq.mpr c6
  have c6b1 : (t251 != 0) = false := bne_eq_false_iff_eq.mpr c6
  clear c6
  by_cases c7 : 0 ≤ a2
  ·
   rw [if_pos c7] at H
   have c7b0 : decide (0 ≤ a2) = true := decide_eq_true c7
   clear c7
   by_cases c8 : a2 < (l1_8.length : Int)
   ·
    rw [if_pos c8] at H
    have c8b0 : decide (a2 < (l1_8.length : Int)) = true := decide_eq_true c8
    clear c8
    replace H := Option.bind_eq_some_iff.mp H
    obtain ⟨⟨t254, t255⟩, A90, H⟩ := H
    have A9 := Aside0.mk (A90)
    clear A90
    simp only [Option.some.injEq, Prod.mk.injEq] at H
    obtain ⟨rfl, rfl, rfl⟩ := H
    go_enter Tryd.func27, Tryd.ntmps27
    try go_wp2_with (first | ((with_reducible refine gate_dst (N := 4) rfl ?_); refine bxE 4 24 #[.int .i64 a0_0, .int .i64 a0_1, .slice A0_2 l0_2.length c0_2] (by rfl) (by rfl) (by first | (go_simp; done) | (go_simp; rfl)) ?_; intro gb246 hg w10 hbox hb; have BK246 := Bk.mk (hbox); have GE246 := eB w hg; replace HB := bS w hb; clear hb hbox hg) | ((with_reducible refine gate_dst (N := 5) rfl ?_); refine bxE 5 47 #[.int .i64 a1_0, .int .i64 a1_1, .int .i64 a1_2, .int .i64 a1_3, .int .i64 a1_4, .int .i64 a1_5, .int .i64 a1_6, .int .i64 a1_7, .slice A1_8 l1_8.length c1_8] (by rfl) (by rfl) (by first | (go_simp; done) | (go_simp; rfl)) ?_; intro gb247 hg w11 hbox hb; have BK247 := Bk.mk (hbox); have GE247 := eB w hg; have NB246_247 := nB gb246 hg; replace BK246 := kB gb246 hb; replace HB := bS w hb; clear hb hbox hg) | ((with_reducible refine gate_dst (N := 8) rfl ?_); refine bxE 8 40 #[.int .i64 0, .int .i64 0] (by rfl) (by rfl) (by first | (go_simp; done) | (go_simp; rfl)) ?_; intro gb248 hg w12 hbox hb; have BK248 := Bk.mk (hbox); have GE248 := eB w hg; have NB246_248 := nB gb246 hg; have NB247_248 := nB gb247 hg; replace BK246 := kB gb246 hb; replace BK247 := kB gb247 hb; replace HB := bS w hb; clear hb hbox hg; obtain ⟨hnb13, hnc13⟩ := nn NB246_247; obtain ⟨hnb14, hnc14⟩ := nn NB246_248; obtain ⟨hcz15_0, hcz15_1, hcz15_2, hfz15_0, hfz15_1, hfz15_2⟩ := cz3 BK246; obtain ⟨hnb16, hnc16⟩ := nn NB247_248; obtain ⟨hcz17_0, hcz17_1, hcz17_2, hcz17_3, hcz17_4, hcz17_5, hcz17_6, hcz17_7, hcz17_8, hfz17_0, hfz17_1, hfz17_2, hfz17_3, hfz17_4, hfz17_5, hfz17_6, hfz17_7, hfz17_8⟩ := cz9 BK247) | ((with_reducible refine gate_callee (f := 81) rfl ?_); refine goesLM (some 18) rfl rfl Tryd.func81 (by kernel_rfl) rfl #[.agg #[.int .i64 a0_0, .int .i64 a0_1, .slice A0_2 l0_2.length c0_2], .agg #[.int .i64 a1_0, .int .i64 a1_1, .int .i64 a1_2, .int .i64 a1_3, .int .i64 a1_4, .int .i64 a1_5, .int .i64 a1_6, .int .i64 a1_7, .slice A1_8 l1_8.length c1_8], .int .i64 a2, .int .i64 a3] rfl (by rfl) ?_; (with_reducible refine (course_look.calls k a0_0 a0_1 _ _ l0_2 a1_0 a1_1 a1_2 a1_3 a1_4 a1_5 a1_6 a1_7 _ _ l1_8 a2 a3 t249 t250 t251 _ ?side1 ?side2 ?side3 ?side4 A5.out).mono ?_); (case side1 => exact cP (Kd.C_below HR0_2.out HB.out)); (case side2 => exact HC0_2.out); (case side3 => exact cP (Kd.C_below HR1_8.out HB.out)); (case side4 => exact HC1_8.out); rintro e w18 ⟨rfl, hb⟩; refine ⟨_, rfl, ?_⟩; replace BK246 := kB gb246 hb; replace BK247 := kB gb247 hb; replace BK248 := kB gb248 hb; replace HB := bS w hb; (try clear hb)) | ((with_reducible refine gate_dst (N := 10) rfl ?_); refine bxE 10 103 #[.int .i64 0, .int .i64 0] (by rfl) (by rfl) (by first | (go_simp; done) | (go_simp; rfl)) ?_; intro gb252 hg w19 hbox hb; have BK252 := Bk.mk (hbox); have GE252 := eB w hg; have NB246_252 := nB gb246 hg; have NB247_252 := nB gb247 hg; have NB248_252 := nB gb248 hg; replace BK246 := kB gb246 hb; replace BK247 := kB gb247 hb; replace BK248 := kB gb248 hb; replace HB := bS w hb; clear hb hbox hg; obtain ⟨hnc20, hnb20⟩ := nn NB246_252; obtain ⟨hnc21, hnb21⟩ := nn NB247_252; obtain ⟨hnc22, hnb22⟩ := nn NB248_252; obtain ⟨hcz23_0, hcz23_1, hfz23_0, hfz23_1⟩ := cz2 BK252))
    have n0_ : Bk ((w19.setCell ⟨gb252, 0, none⟩ (.int .i64 t249)).setCell ⟨gb252, 1, none⟩ (.int .i64 t250)) gb246 (.cells #[.int .i64 a0_0, .int .i64 a0_1, .slice A0_2 l0_2.length c0_2] 24 (0, 0)) := ⟨bko gb246 (by rfl)⟩
    have n1_ : Bk ((w19.setCell ⟨gb252, 0, none⟩ (.int .i64 t249)).setCell ⟨gb252, 1, none⟩ (.int .i64 t250)) gb247 (.cells #[.int .i64 a1_0, .int .i64 a1_1, .int .i64 a1_2, .int .i64 a1_3, .int .i64 a1_4, .int .i64 a1_5, .int .i64 a1_6, .int .i64 a1_7, .slice A1_8 l1_8.length c1_8] 47 (0, 0)) := ⟨bko gb247 (by rfl)⟩
    have n2_ : Bk ((w19.setCell ⟨gb252, 0, none⟩ (.int .i64 t249)).setCell ⟨gb252, 1, none⟩ (.int .i64 t250)) gb248 (.cells #[.int .i64 0, .int .i64 0] 40 (0, 0)) := ⟨bko gb248 (by rfl)⟩
    have n3_ : Bk ((w19.setCell ⟨gb252, 0, none⟩ (.int .i64 t249)).setCell ⟨gb252, 1, none⟩ (.int .i64 t250)) gb252 (.cells #[.int .i64 t249, .int .i64 t250] 103 (0, 0)) := ⟨bko gb252 (by rfl)⟩
    have n4_ : Bw w ((w19.setCell ⟨gb252, 0, none⟩ (.int .i64 t249)).setCell ⟨gb252, 1, none⟩ (.int .i64 t250)) := inferInstance
    (try clear BK246)
    (try clear BK247)
    (try clear BK248)
    (try clear BK252)
    (try clear HB)
    generalize ((w19.setCell ⟨gb252, 0, none⟩ (.int .i64 t249)).setCell ⟨gb252, 1, none⟩ (.int .i64 t250)) = w24 at n0_ n1_ n2_ n3_ n4_ ⊢
    have BK246 := n0_
    have BK247 := n1_
    have BK248 := n2_
    have BK252 := n3_
    have HB := n4_
    clear n0_ n1_ n2_ n3_ n4_
    have n0_ := Bk.mk (blk_drew BK246.out)
    have n1_ := Bk.mk (blk_drew BK247.out)
    have n2_ := Bk.mk (blk_drew BK248.out)
    have n3_ := Bk.mk (blk_drew BK252.out)
    have n4_ := Bw.mk (below_drew1 HB.out)
    clear BK246 BK247 BK248 BK252 HB
    have BK246 := n0_
    have BK247 := n1_
    have BK248 := n2_
    have BK252 := n3_
    have HB := n4_
    clear n0_ n1_ n2_ n3_ n4_
    have p253 : 0 ≤ (a2 : Int) := of_decide_eq_true (by first | (with_reducible assumption) | assumption)
    have q253 : a2 < (l1_8.length : Int) := of_decide_eq_true (by first | (with_reducible assumption) | assumption)
    obtain ⟨ad253, e253, hx253_0, hx253_1, hx253_2, hx253_3, hx253_4⟩ := at_T71 HR1_8.out a2 p253 q253
    have hw253_4 := hx253_4
    have hw253_3 := hx253_3
    have hw253_2 := hx253_2
    have hw253_1 := hx253_1
    have hw253_0 := hx253_0
    cases e253
    replace hx253_0 := cB HB hx253_0
    replace hx253_1 := cB HB hx253_1
    replace hx253_2 := cB HB hx253_2
    replace hx253_3 := cB HB hx253_3
    replace hx253_4 := cB HB hx253_4
    replace p253 := eq_true p253
    replace q253 := eq_true q253
    refine start_ (n := 10) (S := fun w' => w'.cell? ⟨gb247, 0, none⟩ = some (.int .i64 a1_0) ∧ w'.cell? ⟨gb247, 1, none⟩ = some (.int .i64 a1_1) ∧ w'.cell? ⟨gb247, 2, none⟩ = some (.int .i64 a1_2) ∧ w'.cell? ⟨gb247, 3, none⟩ = some (.int .i64 a1_3) ∧ w'.cell? ⟨gb247, 4, none⟩ = some (.int .i64 a1_4) ∧ w'.cell? ⟨gb247, 5, none⟩ = some (.int .i64 a1_5) ∧ w'.cell? ⟨gb247, 6, none⟩ = some (.int .i64 a1_6) ∧ w'.cell? ⟨gb247, 7, none⟩ = some (.int .i64 a1_7) ∧ w'.cell? ⟨gb247, 8, none⟩ = some (.slice (some ad253) l1_8.length c1_8) ∧ w'.cell? ⟨gb252, 0, none⟩ = some (.int .i64 t249) ∧ w'.cell? ⟨gb252, 1, none⟩ = some (.int .i64 t250) ∧ w'.cell? (ad253.add ((a2).toNat * 5)) = some (.int .i64 ((rd_T71 l1_8 a2).f0)) ∧ w'.cell? ⟨(ad253.add ((a2).toNat * 5)).block, (ad253.add ((a2).toNat * 5)).off + 1, none⟩ = some (.int .i64 ((rd_T71 l1_8 a2).f1)) ∧ w'.cell? ⟨(ad253.add ((a2).toNat * 5)).block, (ad253.add ((a2).toNat * 5)).off + 2, none⟩ = some (.int .i64 ((rd_T71 l1_8 a2).f2)) ∧ w'.cell? ⟨(ad253.add ((a2).toNat * 5)).block, (ad253.add ((a2).toNat * 5)).off + 3, none⟩ = some (.int .i64 ((rd_T71 l1_8 a2).f3)) ∧ w'.cell? ⟨(ad253.add ((a2).toNat * 5)).block, (ad253.add ((a2).toNat * 5)).off + 4, none⟩ = some (.int .i64 ((rd_T71 l1_8 a2).f4))) (ds := []) #[false, false, false, false, false, false, false, false, false, false] (by kernel_rfl) rfl rfl ⟨bc BK247 0, bc BK247 1, bc BK247 2, bc BK247 3, bc BK247 4, bc BK247 5, bc BK247 6, bc BK247 7, bc BK247 8, bc BK252 0, bc BK252 1, ((HB.out.cell (World.block_lt_of_cell? w _ hw253_0)).trans hw253_0), ((HB.out.cell (World.block_lt_of_cell? w _ hw253_1)).trans hw253_1), ((HB.out.cell (World.block_lt_of_cell? w _ hw253_2)).trans hw253_2), ((HB.out.cell (World.block_lt_of_cell? w _ hw253_3)).trans hw253_3), ((HB.out.cell (World.block_lt_of_cell? w _ hw253_4)).trans hw253_4)⟩ (fun hHeld => ?_); refine with_tabW course_Core.tab4 course_Core.bits4 (fun HT_ HW_ => ?_)
    generalize w24.drew = w25 at BK246 BK247 BK248 BK252 HB hx253_0 hx253_1 hx253_2 hx253_3 hx253_4 hHeld ⊢
    refine pS 1 (some 26) rfl rfl (any_of HT_.out (by kernel_rfl)) (fun _ _ _ h => h) (by rfl) (fun w' => by go_simp; with_reducible rfl) (by simp only [Act.put, List.setIfInBounds_toArray, List.set_cons_zero, List.set_cons_succ, i64_w]; rfl) ?_
    refine pS 3 (some 28) rfl rfl (any_of HT_.out (by kernel_rfl)) (fun _ _ _ h => h) (by rfl) (fun w' => by go_simp; with_reducible rfl) (by simp only [Act.put, List.setIfInBounds_toArray, List.set_cons_zero, List.set_cons_succ, i64_w]; rfl) ?_
    refine tS 0 (some 25) rfl rfl (take_ofW HT_.out HW_.out (by kernel_rfl)) (fun _ _ _ h => h) (by rfl) (by rintro w' ⟨s0, s1, s2, s3, s4, s5, s6, s7, s8, s9, s10, s11, s12, s13, s14, s15⟩; go_simp; with_reducible rfl) hHeld (by simp only [Act.put, List.setIfInBounds_toArray, List.set_cons_zero, List.set_cons_succ, i64_w]; rfl) ?_
    refine tS 2 (some 27) rfl rfl (take_ofW HT_.out HW_.out (by kernel_rfl)) (fun _ _ _ h => h) (by rfl) (by rintro w' ⟨s0, s1, s2, s3, s4, s5, s6, s7, s8, s9, s10, s11, s12, s13, s14, s15⟩; go_simp; with_reducible rfl) hHeld (by simp only [Act.put, List.setIfInBounds_toArray, List.set_cons_zero, List.set_cons_succ, i64_w]; rfl) ?_
    refine pS 4 (some 29) rfl rfl (any_of HT_.out (by kernel_rfl)) (fun _ _ _ h => h) (by rfl) (fun w' => by go_simp; with_reducible rfl) (by simp only [Act.put, List.setIfInBounds_toArray, List.set_cons_zero, List.set_cons_succ, i64_w]; rfl) ?_
    refine tS 5 (some 30) rfl rfl (take_ofW HT_.out HW_.out (by kernel_rfl)) (fun _ _ _ h => h) (by rfl) (by rintro w' ⟨s0, s1, s2, s3, s4, s5, s6, s7, s8, s9, s10, s11, s12, s13, s14, s15⟩; go_simp; with_reducible rfl) hHeld (by simp only [Act.put, List.setIfInBounds_toArray, List.set_cons_zero, List.set_cons_succ, i64_w]; rfl) ?_
    refine tS 6 (some 31) rfl rfl (take_ofW HT_.out HW_.out (by kernel_rfl)) (fun _ _ _ h => h) (by rfl) (by rintro w' ⟨s0, s1, s2, s3, s4, s5, s6, s7, s8, s9, s10, s11, s12, s13, s14, s15⟩; go_simp; with_reducible rfl) hHeld (by simp only [Act.put, List.setIfInBounds_toArray, List.set_cons_zero, List.set_cons_succ, i64_w]; rfl) ?_
    refine join_ (σ := Nat) 1 #[true, true, true, true, true, true, true, true, true, false] (fun s_ => [(32, .agg #[.int .i64 t254, .int .i64 t255]), (12, .pointer (some ⟨s_, 0, none⟩))]) (fun s_ w' => (w'.cell? ⟨gb247, 0, none⟩ = some (.int .i64 a1_0) ∧ w'.cell? ⟨gb247, 1, none⟩ = some (.int .i64 a1_1) ∧ w'.cell? ⟨gb247, 2, none⟩ = some (.int .i64 a1_2) ∧ w'.cell? ⟨gb247, 3, none⟩ = some (.int .i64 a1_3) ∧ w'.cell? ⟨gb247, 4, none⟩ = some (.int .i64 a1_4) ∧ w'.cell? ⟨gb247, 5, none⟩ = some (.int .i64 a1_5) ∧ w'.cell? ⟨gb247, 6, none⟩ = some (.int .i64 a1_6) ∧ w'.cell? ⟨gb247, 7, none⟩ = some (.int .i64 a1_7) ∧ w'.cell? ⟨gb247, 8, none⟩ = some (.slice (some ad253) l1_8.length c1_8) ∧ w'.cell? ⟨gb252, 0, none⟩ = some (.int .i64 t249) ∧ w'.cell? ⟨gb252, 1, none⟩ = some (.int .i64 t250) ∧ w'.cell? (ad253.add ((a2).toNat * 5)) = some (.int .i64 ((rd_T71 l1_8 a2).f0)) ∧ w'.cell? ⟨(ad253.add ((a2).toNat * 5)).block, (ad253.add ((a2).toNat * 5)).off + 1, none⟩ = some (.int .i64 ((rd_T71 l1_8 a2).f1)) ∧ w'.cell? ⟨(ad253.add ((a2).toNat * 5)).block, (ad253.add ((a2).toNat * 5)).off + 2, none⟩ = some (.int .i64 ((rd_T71 l1_8 a2).f2)) ∧ w'.cell? ⟨(ad253.add ((a2).toNat * 5)).block, (ad253.add ((a2).toNat * 5)).off + 3, none⟩ = some (.int .i64 ((rd_T71 l1_8 a2).f3)) ∧ w'.cell? ⟨(ad253.add ((a2).toNat * 5)).block, (ad253.add ((a2).toNat * 5)).off + 4, none⟩ = some (.int .i64 ((rd_T71 l1_8 a2).f4))) ∧ (w'.heap[gb246]? = some (.cells #[.int .i64 a0_0, .int .i64 a0_1, .slice A0_2 l0_2.length c0_2] 24 (0, 0))) ∧ (w'.heap[gb247]? = some (.cells #[.int .i64 a1_0, .int .i64 a1_1, .int .i64 a1_2, .int .i64 a1_3, .int .i64 a1_4, .int .i64 a1_5, .int .i64 a1_6, .int .i64 a1_7, .slice (some ad253) l1_8.length c1_8] 47 (0, 0))) ∧ (w'.heap[gb248]? = some (.cells #[.int .i64 0, .int .i64 0] 40 (0, 0))) ∧ (w'.heap[gb252]? = some (.cells #[.int .i64 t249, .int .i64 t250] 103 (0, 0))) ∧ (w'.heap[s_]? = some (.cells #[.int .i64 0, .int .i64 0] 103 (0, 0))) ∧ (w.heap.size ≤ s_) ∧ (w.heap.size ≤ s_) ∧ (gb246 ≠ s_) ∧ (s_ ≠ gb246) ∧ (gb247 ≠ s_) ∧ (s_ ≠ gb247) ∧ (gb248 ≠ s_) ∧ (s_ ≠ gb248) ∧ (gb252 ≠ s_) ∧ (s_ ≠ gb252) ∧ (Below w.heap.size w w')) ?_ ?_
    rotate_left
    ·
     intro hCont
     refine two_ (i := 7) (j := 8) (Ni := some 32) (Nj := some 12) #[true, true, true, true, true, true, true, true, false, false] #[true, true, true, true, true, true, true, false, true, false] rfl rfl rfl rfl (two_of HT_.out (by kernel_rfl)) (by decide) (by decide) (fun K hK => ?_) (fun K hK => ?_)
     ·
      skip
      refine goesM Tryd.func82 (by kernel_rfl) rfl #[.agg #[.int .i64 a1_0, .int .i64 a1_1, .int .i64 a1_2, .int .i64 a1_3, .int .i64 a1_4, .int .i64 a1_5, .int .i64 a1_6, .int .i64 a1_7, .slice (some ad253) l1_8.length c1_8], .agg #[.int .i64 ((rd_T71 l1_8 a2).f0), .int .i64 ((rd_T71 l1_8 a2).f1), .int .i64 ((rd_T71 l1_8 a2).f2), .int .i64 ((rd_T71 l1_8 a2).f3), .int .i64 ((rd_T71 l1_8 a2).f4)], .agg #[.int .i64 t249, .int .i64 t250]] (by rfl) rfl rfl (by rfl) ?_
      with_reducible refine (course_core.calls a1_0 a1_1 a1_2 a1_3 a1_4 a1_5 a1_6 a1_7 _ _ l1_8 ((rd_T71 l1_8 a2).f0) ((rd_T71 l1_8 a2).f1) ((rd_T71 l1_8 a2).f2) ((rd_T71 l1_8 a2).f3) ((rd_T71 l1_8 a2).f4) t249 t250 t254 t255 _ ?side1 ?side2 A9.out).mono ?_
      (case side1 => exact cP (Kd.C_below HR1_8.out HB.out))
      (case side2 => exact HC1_8.out)
      rintro e w26 ⟨rfl, hb⟩
      refine ⟨_, rfl, ?_⟩
      replace BK246 := kB gb246 hb
      replace BK247 := kB gb247 hb
      replace BK248 := kB gb248 hb
      replace BK252 := kB gb252 hb
      replace HB := bS w hb
      (try clear hb)
      refine hK.out _ _ ⟨bc BK247 0, bc BK247 1, bc BK247 2, bc BK247 3, bc BK247 4, bc BK247 5, bc BK247 6, bc BK247 7, bc BK247 8, bc BK252 0, bc BK252 1, ((HB.out.cell (World.block_lt_of_cell? w _ hw253_0)).trans hw253_0), ((HB.out.cell (World.block_lt_of_cell? w _ hw253_1)).trans hw253_1), ((HB.out.cell (World.block_lt_of_cell? w _ hw253_2)).trans hw253_2), ((HB.out.cell (World.block_lt_of_cell? w _ hw253_3)).trans hw253_3), ((HB.out.cell (World.block_lt_of_cell? w _ hw253_4)).trans hw253_4)⟩ (fun hHeld => ?_)
      clear hK K
      refine norm_ (a' := ?_) ?_ ?_
      rotate_left
      ·
       show Act.put _ (some 32) _ = _
       simp only [Act.put, List.setIfInBounds_toArray, List.set_cons_zero, List.set_cons_succ, i64_w]
       rfl
      refine one_ (i := 8) (N := some 12) #[true, true, true, true, true, true, true, true, true, false] rfl rfl (one_of HT_.out (by kernel_rfl)) (by decide) (fun K hK => ?_)
      refine box_step ?hg (N := 12) ?hd (cs := #[.int .i64 0, .int .i64 0]) (t := 103) ?hr ?_; (case hd => rfl); (case hg => rfl); (case hr => first | (go_simp; done) | (go_simp; rfl))
      intro gb256 hg w27 hbox hb
      have BK256 := Bk.mk (hbox)
      have GW256 := eB w hg
      have GE256 := eB w hg
      have NB246_256 := nB gb246 hg
      have NB256_246 := nB' gb246 hg
      have NB247_256 := nB gb247 hg
      have NB256_247 := nB' gb247 hg
      have NB248_256 := nB gb248 hg
      have NB256_248 := nB' gb248 hg
      have NB252_256 := nB gb252 hg
      have NB256_252 := nB' gb252 hg
      replace BK246 := kB gb246 hb
      replace BK247 := kB gb247 hb
      replace BK248 := kB gb248 hb
      replace BK252 := kB gb252 hb
      replace HB := bS w hb
      clear hb hbox hg
      refine hK.out _ _ ⟨bc BK247 0, bc BK247 1, bc BK247 2, bc BK247 3, bc BK247 4, bc BK247 5, bc BK247 6, bc BK247 7, bc BK247 8, bc BK252 0, bc BK252 1, ((HB.out.cell (World.block_lt_of_cell? w _ hw253_0)).trans hw253_0), ((HB.out.cell (World.block_lt_of_cell? w _ hw253_1)).trans hw253_1), ((HB.out.cell (World.block_lt_of_cell? w _ hw253_2)).trans hw253_2), ((HB.out.cell (World.block_lt_of_cell? w _ hw253_3)).trans hw253_3), ((HB.out.cell (World.block_lt_of_cell? w _ hw253_4)).trans hw253_4)⟩ (fun hHeld => ?_)
      clear hK K
      refine norm_ (a' := ?_) ?_ ?_
      rotate_left
      ·
       show Act.put _ (some 12) _ = _
       simp only [Act.put, List.setIfInBounds_toArray, List.set_cons_zero, List.set_cons_succ, i64_w]
       rfl
      exact norm_ (by simp only [putAll, Act.put, List.setIfInBounds_toArray, List.set_cons_zero, List.set_cons_succ]) (hCont (gb256) _ ⟨hHeld, (bk _ gb246), (bk _ gb247), (bk _ gb248), (bk _ gb252), (bk _ gb256), GW256.out, GE256.out, NB246_256.out, NB256_246.out, NB247_256.out, NB256_247.out, NB248_256.out, NB256_248.out, NB252_256.out, NB256_252.out, (bw w)⟩)
     ·
      skip
      refine box_step ?hg (N := 12) ?hd (cs := #[.int .i64 0, .int .i64 0]) (t := 103) ?hr ?_; (case hd => rfl); (case hg => rfl); (case hr => first | (go_simp; done) | (go_simp; rfl))
      intro gb256 hg w26 hbox hb
      have BK256 := Bk.mk (hbox)
      have GW256 := eB w hg
      have GE256 := eB w hg
      have NB246_256 := nB gb246 hg
      have NB256_246 := nB' gb246 hg
      have NB247_256 := nB gb247 hg
      have NB256_247 := nB' gb247 hg
      have NB248_256 := nB gb248 hg
      have NB256_248 := nB' gb248 hg
      have NB252_256 := nB gb252 hg
      have NB256_252 := nB' gb252 hg
      replace BK246 := kB gb246 hb
      replace BK247 := kB gb247 hb
      replace BK248 := kB gb248 hb
      replace BK252 := kB gb252 hb
      replace HB := bS w hb
      clear hb hbox hg
      refine hK.out _ _ ⟨bc BK247 0, bc BK247 1, bc BK247 2, bc BK247 3, bc BK247 4, bc BK247 5, bc BK247 6, bc BK247 7, bc BK247 8, bc BK252 0, bc BK252 1, ((HB.out.cell (World.block_lt_of_cell? w _ hw253_0)).trans hw253_0), ((HB.out.cell (World.block_lt_of_cell? w _ hw253_1)).trans hw253_1), ((HB.out.cell (World.block_lt_of_cell? w _ hw253_2)).trans hw253_2), ((HB.out.cell (World.block_lt_of_cell? w _ hw253_3)).trans hw253_3), ((HB.out.cell (World.block_lt_of_cell? w _ hw253_4)).trans hw253_4)⟩ (fun hHeld => ?_)
      clear hK K
      refine norm_ (a' := ?_) ?_ ?_
      rotate_left
      ·
       show Act.put _ (some 12) _ = _
       simp only [Act.put, List.setIfInBounds_toArray, List.set_cons_zero, List.set_cons_succ, i64_w]
       rfl
      refine one_ (i := 7) (N := some 32) #[true, true, true, true, true, true, true, true, true, false] rfl rfl (one_of HT_.out (by kernel_rfl)) (by decide) (fun K hK => ?_)
      refine goesM Tryd.func82 (by kernel_rfl) rfl #[.agg #[.int .i64 a1_0, .int .i64 a1_1, .int .i64 a1_2, .int .i64 a1_3, .int .i64 a1_4, .int .i64 a1_5, .int .i64 a1_6, .int .i64 a1_7, .slice (some ad253) l1_8.length c1_8], .agg #[.int .i64 ((rd_T71 l1_8 a2).f0), .int .i64 ((rd_T71 l1_8 a2).f1), .int .i64 ((rd_T71 l1_8 a2).f2), .int .i64 ((rd_T71 l1_8 a2).f3), .int .i64 ((rd_T71 l1_8 a2).f4)], .agg #[.int .i64 t249, .int .i64 t250]] (by rfl) rfl rfl (by rfl) ?_
      with_reducible refine (course_core.calls a1_0 a1_1 a1_2 a1_3 a1_4 a1_5 a1_6 a1_7 _ _ l1_8 ((rd_T71 l1_8 a2).f0) ((rd_T71 l1_8 a2).f1) ((rd_T71 l1_8 a2).f2) ((rd_T71 l1_8 a2).f3) ((rd_T71 l1_8 a2).f4) t249 t250 t254 t255 _ ?side1 ?side2 A9.out).mono ?_
      (case side1 => exact cP (Kd.C_below HR1_8.out HB.out))
      (case side2 => exact HC1_8.out)
      rintro e w27 ⟨rfl, hb⟩
      refine ⟨_, rfl, ?_⟩
      replace BK246 := kB gb246 hb
      replace BK247 := kB gb247 hb
      replace BK248 := kB gb248 hb
      replace BK252 := kB gb252 hb
      replace BK256 := kB gb256 hb
      replace HB := bS w hb
      (try clear hb)
      refine hK.out _ _ ⟨bc BK247 0, bc BK247 1, bc BK247 2, bc BK247 3, bc BK247 4, bc BK247 5, bc BK247 6, bc BK247 7, bc BK247 8, bc BK252 0, bc BK252 1, ((HB.out.cell (World.block_lt_of_cell? w _ hw253_0)).trans hw253_0), ((HB.out.cell (World.block_lt_of_cell? w _ hw253_1)).trans hw253_1), ((HB.out.cell (World.block_lt_of_cell? w _ hw253_2)).trans hw253_2), ((HB.out.cell (World.block_lt_of_cell? w _ hw253_3)).trans hw253_3), ((HB.out.cell (World.block_lt_of_cell? w _ hw253_4)).trans hw253_4)⟩ (fun hHeld => ?_)
      clear hK K
      refine norm_ (a' := ?_) ?_ ?_
      rotate_left
      ·
       show Act.put _ (some 32) _ = _
       simp only [Act.put, List.setIfInBounds_toArray, List.set_cons_zero, List.set_cons_succ, i64_w]
       rfl
      exact norm_ (by simp only [putAll, Act.put, List.setIfInBounds_toArray, List.set_cons_zero, List.set_cons_succ]) (hCont (gb256) _ ⟨hHeld, (bk _ gb246), (bk _ gb247), (bk _ gb248), (bk _ gb252), (bk _ gb256), GW256.out, GE256.out, NB246_256.out, NB256_246.out, NB247_256.out, NB256_247.out, NB248_256.out, NB256_248.out, NB252_256.out, NB256_252.out, (bw w)⟩)
    rintro gb256 w28 ⟨hS_, h0_, h1_, h2_, h3_, h4_, h5_, h6_, h7_, h8_, h9_, h10_, h11_, h12_, h13_, h14_, h15_⟩
    have n0_ : Bk w28 gb246 (.cells #[.int .i64 a0_0, .int .i64 a0_1, .slice A0_2 l0_2.length c0_2] 24 (0, 0)) := ⟨h0_⟩
    have n1_ : Bk w28 gb247 (.cells #[.int .i64 a1_0, .int .i64 a1_1, .int .i64 a1_2, .int .i64 a1_3, .int .i64 a1_4, .int .i64 a1_5, .int .i64 a1_6, .int .i64 a1_7, .slice (some ad253) l1_8.length c1_8] 47 (0, 0)) := ⟨h1_⟩
    have n2_ : Bk w28 gb248 (.cells #[.int .i64 0, .int .i64 0] 40 (0, 0)) := ⟨h2_⟩
    have n3_ : Bk w28 gb252 (.cells #[.int .i64 t249, .int .i64 t250] 103 (0, 0)) := ⟨h3_⟩
    have n4_ : Bk w28 gb256 (.cells #[.int .i64 0, .int .i64 0] 103 (0, 0)) := ⟨h4_⟩
    have n5_ : Ge w gb256 := ⟨h5_⟩
    have n6_ : Ge w gb256 := ⟨h6_⟩
    have n7_ : Nb gb246 gb256 := ⟨h7_⟩
    have n8_ : Nb gb256 gb246 := ⟨h8_⟩
    have n9_ : Nb gb247 gb256 := ⟨h9_⟩
    have n10_ : Nb gb256 gb247 := ⟨h10_⟩
    have n11_ : Nb gb248 gb256 := ⟨h11_⟩
    have n12_ : Nb gb256 gb248 := ⟨h12_⟩
    have n13_ : Nb gb252 gb256 := ⟨h13_⟩
    have n14_ : Nb gb256 gb252 := ⟨h14_⟩
    have n15_ : Bw w w28 := ⟨h15_⟩
    clear BK246 BK247 BK248 BK252 HB h0_ h1_ h2_ h3_ h4_ h5_ h6_ h7_ h8_ h9_ h10_ h11_ h12_ h13_ h14_ h15_
    have BK246 := n0_
    have BK247 := n1_
    have BK248 := n2_
    have BK252 := n3_
    have BK256 := n4_
    have GW256 := n5_
    have GE256 := n6_
    have NB246_256 := n7_
    have NB256_246 := n8_
    have NB247_256 := n9_
    have NB256_247 := n10_
    have NB248_256 := n11_
    have NB256_248 := n12_
    have NB252_256 := n13_
    have NB256_252 := n14_
    have HB := n15_
    clear n0_ n1_ n2_ n3_ n4_ n5_ n6_ n7_ n8_ n9_ n10_ n11_ n12_ n13_ n14_ n15_
    have hHeld : w28.cell? ⟨gb247, 0, none⟩ = some (.int .i64 a1_0) ∧ w28.cell? ⟨gb247, 1, none⟩ = some (.int .i64 a1_1) ∧ w28.cell? ⟨gb247, 2, none⟩ = some (.int .i64 a1_2) ∧ w28.cell? ⟨gb247, 3, none⟩ = some (.int .i64 a1_3) ∧ w28.cell? ⟨gb247, 4, none⟩ = some (.int .i64 a1_4) ∧ w28.cell? ⟨gb247, 5, none⟩ = some (.int .i64 a1_5) ∧ w28.cell? ⟨gb247, 6, none⟩ = some (.int .i64 a1_6) ∧ w28.cell? ⟨gb247, 7, none⟩ = some (.int .i64 a1_7) ∧ w28.cell? ⟨gb247, 8, none⟩ = some (.slice (some ad253) l1_8.length c1_8) ∧ w28.cell? ⟨gb252, 0, none⟩ = some (.int .i64 t249) ∧ w28.cell? ⟨gb252, 1, none⟩ = some (.int .i64 t250) ∧ w28.cell? (ad253.add ((a2).toNat * 5)) = some (.int .i64 ((rd_T71 l1_8 a2).f0)) ∧ w28.cell? ⟨(ad253.add ((a2).toNat * 5)).block, (ad253.add ((a2).toNat * 5)).off + 1, none⟩ = some (.int .i64 ((rd_T71 l1_8 a2).f1)) ∧ w28.cell? ⟨(ad253.add ((a2).toNat * 5)).block, (ad253.add ((a2).toNat * 5)).off + 2, none⟩ = some (.int .i64 ((rd_T71 l1_8 a2).f2)) ∧ w28.cell? ⟨(ad253.add ((a2).toNat * 5)).block, (ad253.add ((a2).toNat * 5)).off + 3, none⟩ = some (.int .i64 ((rd_T71 l1_8 a2).f3)) ∧ w28.cell? ⟨(ad253.add ((a2).toNat * 5)).block, (ad253.add ((a2).toNat * 5)).off + 4, none⟩ = some (.int .i64 ((rd_T71 l1_8 a2).f4)) := hS_
    refine norm_ (a' := ?_) ?_ ?_
    rotate_left
    ·
     simp only [putAll, Act.put, List.setIfInBounds_toArray, List.set_cons_zero, List.set_cons_succ]
     rfl
    refine one_ (i := 9) (N := none) #[true, true, true, true, true, true, true, true, true, true] rfl rfl (one_of HT_.out (by kernel_rfl)) (by decide) (fun K hK => ?_)
    have hs29 : w28.cell? ⟨gb256, 0, none⟩ = some (.int .i64 0) := bc BK256 0
    have hfs29 := blk_frozen BK256.out 0
    have hns29_0 := NB246_256.out
    have hns29_1 := NB247_256.out
    have hns29_2 := NB248_256.out
    have hns29_3 := NB252_256.out
    have hms29_0 := NB256_246.out
    have hms29_1 := NB256_247.out
    have hms29_2 := NB256_248.out
    have hms29_3 := NB256_252.out
    have hs30 : w28.cell? ⟨gb256, 1, none⟩ = some (.int .i64 0) := bc BK256 1
    have hfs30 := blk_frozen BK256.out 1
    have hns30_0 := NB246_256.out
    have hns30_1 := NB247_256.out
    have hns30_2 := NB248_256.out
    have hns30_3 := NB252_256.out
    have hms30_0 := NB256_246.out
    have hms30_1 := NB256_247.out
    have hms30_2 := NB256_248.out
    have hms30_3 := NB256_252.out
    refine skip_ (w1 := ?_) (by rfl) rfl ?_ ?_
    rotate_left
    ·
     go_simp
     rfl
    refine hK.out _ _ ⟨((cell_far (p := ⟨gb256, _, none⟩) NB247_256.out _).trans (((cell_far (p := ⟨gb256, _, none⟩) NB247_256.out _).trans (hHeld.1)))), ((cell_far (p := ⟨gb256, _, none⟩) NB247_256.out _).trans (((cell_far (p := ⟨gb256, _, none⟩) NB247_256.out _).trans (hHeld.2.1)))), ((cell_far (p := ⟨gb256, _, none⟩) NB247_256.out _).trans (((cell_far (p := ⟨gb256, _, none⟩) NB247_256.out _).trans (hHeld.2.2.1)))), ((cell_far (p := ⟨gb256, _, none⟩) NB247_256.out _).trans (((cell_far (p := ⟨gb256, _, none⟩) NB247_256.out _).trans (hHeld.2.2.2.1)))), ((cell_far (p := ⟨gb256, _, none⟩) NB247_256.out _).trans (((cell_far (p := ⟨gb256, _, none⟩) NB247_256.out _).trans (hHeld.2.2.2.2.1)))), ((cell_far (p := ⟨gb256, _, none⟩) NB247_256.out _).trans (((cell_far (p := ⟨gb256, _, none⟩) NB247_256.out _).trans (hHeld.2.2.2.2.2.1)))), ((cell_far (p := ⟨gb256, _, none⟩) NB247_256.out _).trans (((cell_far (p := ⟨gb256, _, none⟩) NB247_256.out _).trans (hHeld.2.2.2.2.2.2.1)))), ((cell_far (p := ⟨gb256, _, none⟩) NB247_256.out _).trans (((cell_far (p := ⟨gb256, _, none⟩) NB247_256.out _).trans (hHeld.2.2.2.2.2.2.2.1)))), ((cell_far (p := ⟨gb256, _, none⟩) NB247_256.out _).trans (((cell_far (p := ⟨gb256, _, none⟩) NB247_256.out _).trans (hHeld.2.2.2.2.2.2.2.2.1)))), ((cell_far (p := ⟨gb256, _, none⟩) NB252_256.out _).trans (((cell_far (p := ⟨gb256, _, none⟩) NB252_256.out _).trans (hHeld.2.2.2.2.2.2.2.2.2.1)))), ((cell_far (p := ⟨gb256, _, none⟩) NB252_256.out _).trans (((cell_far (p := ⟨gb256, _, none⟩) NB252_256.out _).trans (hHeld.2.2.2.2.2.2.2.2.2.2.1)))), ((cell_far (p := ⟨gb256, _, none⟩) (by first | exact Nat.ne_of_lt (Nat.lt_of_lt_of_le (by have := World.block_lt_of_cell? _ _ hw253_0; first | rwa [add_block] at this | exact this) GW256.out) | (rw [add_block]; exact Nat.ne_of_lt (Nat.lt_of_lt_of_le (by have := World.block_lt_of_cell? _ _ hw253_0; first | rwa [add_block] at this | exact this) GW256.out)) | (show (Addr.add _ _).block ≠ _; rw [add_block]; exact Nat.ne_of_lt (Nat.lt_of_lt_of_le (by have := World.block_lt_of_cell? _ _ hw253_0; first | rwa [add_block] at this | exact this) GW256.out)) | (dsimp only; exact Nat.ne_of_lt (Nat.lt_of_lt_of_le (by have := World.block_lt_of_cell? _ _ hw253_0; first | rwa [add_block] at this | exact this) GW256.out))) _).trans (((cell_far (p := ⟨gb256, _, none⟩) (by first | exact Nat.ne_of_lt (Nat.lt_of_lt_of_le (by have := World.block_lt_of_cell? _ _ hw253_0; first | rwa [add_block] at this | exact this) GW256.out) | (rw [add_block]; exact Nat.ne_of_lt (Nat.lt_of_lt_of_le (by have := World.block_lt_of_cell? _ _ hw253_0; first | rwa [add_block] at this | exact this) GW256.out)) | (show (Addr.add _ _).block ≠ _; rw [add_block]; exact Nat.ne_of_lt (Nat.lt_of_lt_of_le (by have := World.block_lt_of_cell? _ _ hw253_0; first | rwa [add_block] at this | exact this) GW256.out)) | (dsimp only; exact Nat.ne_of_lt (Nat.lt_of_lt_of_le (by have := World.block_lt_of_cell? _ _ hw253_0; first | rwa [add_block] at this | exact this) GW256.out))) _).trans (hHeld.2.2.2.2.2.2.2.2.2.2.2.1)))), ((cell_far (p := ⟨gb256, _, none⟩) (by first | exact Nat.ne_of_lt (Nat.lt_of_lt_of_le (by have := World.block_lt_of_cell? _ _ hw253_1; first | rwa [add_block] at this | exact this) GW256.out) | (rw [add_block]; exact Nat.ne_of_lt (Nat.lt_of_lt_of_le (by have := World.block_lt_of_cell? _ _ hw253_1; first | rwa [add_block] at this | exact this) GW256.out)) | (show (Addr.add _ _).block ≠ _; rw [add_block]; exact Nat.ne_of_lt (Nat.lt_of_lt_of_le (by have := World.block_lt_of_cell? _ _ hw253_1; first | rwa [add_block] at this | exact this) GW256.out)) | (dsimp only; exact Nat.ne_of_lt (Nat.lt_of_lt_of_le (by have := World.block_lt_of_cell? _ _ hw253_1; first | rwa [add_block] at this | exact this) GW256.out))) _).trans (((cell_far (p := ⟨gb256, _, none⟩) (by first | exact Nat.ne_of_lt (Nat.lt_of_lt_of_le (by have := World.block_lt_of_cell? _ _ hw253_1; first | rwa [add_block] at this | exact this) GW256.out) | (rw [add_block]; exact Nat.ne_of_lt (Nat.lt_of_lt_of_le (by have := World.block_lt_of_cell? _ _ hw253_1; first | rwa [add_block] at this | exact this) GW256.out)) | (show (Addr.add _ _).block ≠ _; rw [add_block]; exact Nat.ne_of_lt (Nat.lt_of_lt_of_le (by have := World.block_lt_of_cell? _ _ hw253_1; first | rwa [add_block] at this | exact this) GW256.out)) | (dsimp only; exact Nat.ne_of_lt (Nat.lt_of_lt_of_le (by have := World.block_lt_of_cell? _ _ hw253_1; first | rwa [add_block] at this | exact this) GW256.out))) _).trans (hHeld.2.2.2.2.2.2.2.2.2.2.2.2.1)))), ((cell_far (p := ⟨gb256, _, none⟩) (by first | exact Nat.ne_of_lt (Nat.lt_of_lt_of_le (by have := World.block_lt_of_cell? _ _ hw253_2; first | rwa [add_block] at this | exact this) GW256.out) | (rw [add_block]; exact Nat.ne_of_lt (Nat.lt_of_lt_of_le (by have := World.block_lt_of_cell? _ _ hw253_2; first | rwa [add_block] at this | exact this) GW256.out)) | (show (Addr.add _ _).block ≠ _; rw [add_block]; exact Nat.ne_of_lt (Nat.lt_of_lt_of_le (by have := World.block_lt_of_cell? _ _ hw253_2; first | rwa [add_block] at this | exact this) GW256.out)) | (dsimp only; exact Nat.ne_of_lt (Nat.lt_of_lt_of_le (by have := World.block_lt_of_cell? _ _ hw253_2; first | rwa [add_block] at this | exact this) GW256.out))) _).trans (((cell_far (p := ⟨gb256, _, none⟩) (by first | exact Nat.ne_of_lt (Nat.lt_of_lt_of_le (by have := World.block_lt_of_cell? _ _ hw253_2; first | rwa [add_block] at this | exact this) GW256.out) | (rw [add_block]; exact Nat.ne_of_lt (Nat.lt_of_lt_of_le (by have := World.block_lt_of_cell? _ _ hw253_2; first | rwa [add_block] at this | exact this) GW256.out)) | (show (Addr.add _ _).block ≠ _; rw [add_block]; exact Nat.ne_of_lt (Nat.lt_of_lt_of_le (by have := World.block_lt_of_cell? _ _ hw253_2; first | rwa [add_block] at this | exact this) GW256.out)) | (dsimp only; exact Nat.ne_of_lt (Nat.lt_of_lt_of_le (by have := World.block_lt_of_cell? _ _ hw253_2; first | rwa [add_block] at this | exact this) GW256.out))) _).trans (hHeld.2.2.2.2.2.2.2.2.2.2.2.2.2.1)))), ((cell_far (p := ⟨gb256, _, none⟩) (by first | exact Nat.ne_of_lt (Nat.lt_of_lt_of_le (by have := World.block_lt_of_cell? _ _ hw253_3; first | rwa [add_block] at this | exact this) GW256.out) | (rw [add_block]; exact Nat.ne_of_lt (Nat.lt_of_lt_of_le (by have := World.block_lt_of_cell? _ _ hw253_3; first | rwa [add_block] at this | exact this) GW256.out)) | (show (Addr.add _ _).block ≠ _; rw [add_block]; exact Nat.ne_of_lt (Nat.lt_of_lt_of_le (by have := World.block_lt_of_cell? _ _ hw253_3; first | rwa [add_block] at this | exact this) GW256.out)) | (dsimp only; exact Nat.ne_of_lt (Nat.lt_of_lt_of_le (by have := World.block_lt_of_cell? _ _ hw253_3; first | rwa [add_block] at this | exact this) GW256.out))) _).trans (((cell_far (p := ⟨gb256, _, none⟩) (by first | exact Nat.ne_of_lt (Nat.lt_of_lt_of_le (by have := World.block_lt_of_cell? _ _ hw253_3; first | rwa [add_block] at this | exact this) GW256.out) | (rw [add_block]; exact Nat.ne_of_lt (Nat.lt_of_lt_of_le (by have := World.block_lt_of_cell? _ _ hw253_3; first | rwa [add_block] at this | exact this) GW256.out)) | (show (Addr.add _ _).block ≠ _; rw [add_block]; exact Nat.ne_of_lt (Nat.lt_of_lt_of_le (by have := World.block_lt_of_cell? _ _ hw253_3; first | rwa [add_block] at this | exact this) GW256.out)) | (dsimp only; exact Nat.ne_of_lt (Nat.lt_of_lt_of_le (by have := World.block_lt_of_cell? _ _ hw253_3; first | rwa [add_block] at this | exact this) GW256.out))) _).trans (hHeld.2.2.2.2.2.2.2.2.2.2.2.2.2.2.1)))), ((cell_far (p := ⟨gb256, _, none⟩) (by first | exact Nat.ne_of_lt (Nat.lt_of_lt_of_le (by have := World.block_lt_of_cell? _ _ hw253_4; first | rwa [add_block] at this | exact this) GW256.out) | (rw [add_block]; exact Nat.ne_of_lt (Nat.lt_of_lt_of_le (by have := World.block_lt_of_cell? _ _ hw253_4; first | rwa [add_block] at this | exact this) GW256.out)) | (show (Addr.add _ _).block ≠ _; rw [add_block]; exact Nat.ne_of_lt (Nat.lt_of_lt_of_le (by have := World.block_lt_of_cell? _ _ hw253_4; first | rwa [add_block] at this | exact this) GW256.out)) | (dsimp only; exact Nat.ne_of_lt (Nat.lt_of_lt_of_le (by have := World.block_lt_of_cell? _ _ hw253_4; first | rwa [add_block] at this | exact this) GW256.out))) _).trans (((cell_far (p := ⟨gb256, _, none⟩) (by first | exact Nat.ne_of_lt (Nat.lt_of_lt_of_le (by have := World.block_lt_of_cell? _ _ hw253_4; first | rwa [add_block] at this | exact this) GW256.out) | (rw [add_block]; exact Nat.ne_of_lt (Nat.lt_of_lt_of_le (by have := World.block_lt_of_cell? _ _ hw253_4; first | rwa [add_block] at this | exact this) GW256.out)) | (show (Addr.add _ _).block ≠ _; rw [add_block]; exact Nat.ne_of_lt (Nat.lt_of_lt_of_le (by have := World.block_lt_of_cell? _ _ hw253_4; first | rwa [add_block] at this | exact this) GW256.out)) | (dsimp only; exact Nat.ne_of_lt (Nat.lt_of_lt_of_le (by have := World.block_lt_of_cell? _ _ hw253_4; first | rwa [add_block] at this | exact this) GW256.out))) _).trans (hHeld.2.2.2.2.2.2.2.2.2.2.2.2.2.2.2))))⟩ (fun hHeld => ?_)
    clear hK K
    refine done_ (done_of HT_.out (by kernel_rfl)) ?_
    have hnb31 := NB256_246.out
    have hnc31 := NB246_256.out
    have hnb32 := NB256_247.out
    have hnc32 := NB247_256.out
    have hnb33 := NB256_248.out
    have hnc33 := NB248_256.out
    have hnb34 := NB256_252.out
    have hnc34 := NB252_256.out
    obtain ⟨hcz35_0, hcz35_1, hfz35_0, hfz35_1⟩ := cz2 BK256
    obtain ⟨hcz36_0, hcz36_1, hfz36_0, hfz36_1⟩ := cz2 BK248
    try go_wp2
    all_goals (refine bodyPost_ret (results_ct rfl _ _ gb248 40 #[.int .i64 t254, .int .i64 t255] (0, 0) _ rfl (bko gb248 (by rfl)) Tryd.underlying40 rfl (by kernel_rfl)) rfl ?_; exact ⟨by first | rfl | (simp [errW_none, errW_some] <;> rfl) | (simp [*, errW_none, errW_some] <;> rfl), bw w⟩)
   ·
    rw [if_neg c8] at H
    exact absurd H (by simp)
  ·
   rw [if_neg c7] at H
   exact absurd H (by simp)
 ·
  rw [if_neg c6] at H
  have c6b0 : (t251 == 0) = false := beq_eq_false_iff_ne.mpr c6
  have c6b1 : (t251 != 0) = true := bne_iff_ne.mpr c6
  simp only [Option.some.injEq, Prod.mk.injEq] at H
  obtain ⟨rfl, rfl, rfl⟩ := H
  go_enter Tryd.func27, Tryd.ntmps27
  go_wp2_with (first | ((with_reducible refine gate_dst (N := 4) rfl ?_); refine bxE 4 24 #[.int .i64 a0_0, .int .i64 a0_1, .slice A0_2 l0_2.length c0_2] (by rfl) (by rfl) (by first | (go_simp; done) | (go_simp; rfl)) ?_; intro gb246 hg w37 hbox hb; have BK246 := Bk.mk (hbox); have GE246 := eB w hg; replace HB := bS w hb; clear hb hbox hg) | ((with_reducible refine gate_dst (N := 5) rfl ?_); refine bxE 5 47 #[.int .i64 a1_0, .int .i64 a1_1, .int .i64 a1_2, .int .i64 a1_3, .int .i64 a1_4, .int .i64 a1_5, .int .i64 a1_6, .int .i64 a1_7, .slice A1_8 l1_8.length c1_8] (by rfl) (by rfl) (by first | (go_simp; done) | (go_simp; rfl)) ?_; intro gb247 hg w38 hbox hb; have BK247 := Bk.mk (hbox); have GE247 := eB w hg; have NB246_247 := nB gb246 hg; replace BK246 := kB gb246 hb; replace HB := bS w hb; clear hb hbox hg) | ((with_reducible refine gate_dst (N := 8) rfl ?_); refine bxE 8 40 #[.int .i64 0, .int .i64 0] (by rfl) (by rfl) (by first | (go_simp; done) | (go_simp; rfl)) ?_; intro gb248 hg w39 hbox hb; have BK248 := Bk.mk (hbox); have GE248 := eB w hg; have NB246_248 := nB gb246 hg; have NB247_248 := nB gb247 hg; replace BK246 := kB gb246 hb; replace BK247 := kB gb247 hb; replace HB := bS w hb; clear hb hbox hg; obtain ⟨hnb40, hnc40⟩ := nn NB246_247; obtain ⟨hnb41, hnc41⟩ := nn NB246_248; obtain ⟨hcz42_0, hcz42_1, hcz42_2, hfz42_0, hfz42_1, hfz42_2⟩ := cz3 BK246; obtain ⟨hnb43, hnc43⟩ := nn NB247_248; obtain ⟨hcz44_0, hcz44_1, hcz44_2, hcz44_3, hcz44_4, hcz44_5, hcz44_6, hcz44_7, hcz44_8, hfz44_0, hfz44_1, hfz44_2, hfz44_3, hfz44_4, hfz44_5, hfz44_6, hfz44_7, hfz44_8⟩ := cz9 BK247) | ((with_reducible refine gate_callee (f := 81) rfl ?_); refine goesLM (some 18) rfl rfl Tryd.func81 (by kernel_rfl) rfl #[.agg #[.int .i64 a0_0, .int .i64 a0_1, .slice A0_2 l0_2.length c0_2], .agg #[.int .i64 a1_0, .int .i64 a1_1, .int .i64 a1_2, .int .i64 a1_3, .int .i64 a1_4, .int .i64 a1_5, .int .i64 a1_6, .int .i64 a1_7, .slice A1_8 l1_8.length c1_8], .int .i64 a2, .int .i64 a3] rfl (by rfl) ?_; (with_reducible refine (course_look.calls k a0_0 a0_1 _ _ l0_2 a1_0 a1_1 a1_2 a1_3 a1_4 a1_5 a1_6 a1_7 _ _ l1_8 a2 a3 t249 t250 t251 _ ?side1 ?side2 ?side3 ?side4 A5.out).mono ?_); (case side1 => exact cP (Kd.C_below HR0_2.out HB.out)); (case side2 => exact HC0_2.out); (case side3 => exact cP (Kd.C_below HR1_8.out HB.out)); (case side4 => exact HC1_8.out); rintro e w45 ⟨rfl, hb⟩; refine ⟨_, rfl, ?_⟩; replace BK246 := kB gb246 hb; replace BK247 := kB gb247 hb; replace BK248 := kB gb248 hb; replace HB := bS w hb; (try clear hb)) | ((with_reducible refine gate_dst (N := 10) rfl ?_); refine bxE 10 103 #[.int .i64 0, .int .i64 0] (by rfl) (by rfl) (by first | (go_simp; done) | (go_simp; rfl)) ?_; intro gb252 hg w46 hbox hb; have BK252 := Bk.mk (hbox); have GE252 := eB w hg; have NB246_252 := nB gb246 hg; have NB247_252 := nB gb247 hg; have NB248_252 := nB gb248 hg; replace BK246 := kB gb246 hb; replace BK247 := kB gb247 hb; replace BK248 := kB gb248 hb; replace HB := bS w hb; clear hb hbox hg; obtain ⟨hnc47, hnb47⟩ := nn NB246_252; obtain ⟨hnc48, hnb48⟩ := nn NB247_252; obtain ⟨hnc49, hnb49⟩ := nn NB248_252; obtain ⟨hcz50_0, hcz50_1, hfz50_0, hfz50_1⟩ := cz2 BK252; obtain ⟨hcz51_0, hcz51_1, hfz51_0, hfz51_1⟩ := cz2 BK248))
  all_goals (refine bodyPost_ret (results_ct rfl _ _ gb248 40 #[.int .i64 0, .int .i64 0] (0, 0) _ rfl (bko gb248 (by rfl)) Tryd.underlying40 rfl (by kernel_rfl)) rfl ?_; exact ⟨by first | rfl | (simp [errW_none, errW_some] <;> rfl) | (simp [*, errW_none, errW_some] <;> rfl), bw w⟩)
def course_snow.f (a0_0 : Int) (a0_1 : Int) (a0_2 : Int) (a0_3 : Int) (a0_4 : Int) (a0_5 : Int) (a0_6 : Int) (a0_7 : Int) (l0_8 : List (S71)) (a1_0 : Int) (a1_1 : Int) (a1_2 : Int) (a1_3 : Int) (a1_4 : Int) (a2_0 : Int) (a2_1 : Int) : Option (Int × Int) := (course_core.f a0_0 a0_1 a0_2 a0_3 a0_4 a0_5 a0_6 a0_7 l0_8 a1_0 a1_1 a1_2 a1_3 a1_4 a2_0 a2_1).bind fun bt260 => (some (wrap64 ((wrap64 (20 * bt260.1)) + (wrap64 (a1_3 * a0_5))), wrap64 (bt260.2 + (wrap64 (a1_3 * a0_5)))))
set_option maxHeartbeats 8000000 in
set_option maxRecDepth 100000 in
theorem course_snow.calls (a0_0 : Int) (a0_1 : Int) (a0_2 : Int) (a0_3 : Int) (a0_4 : Int) (a0_5 : Int) (a0_6 : Int) (a0_7 : Int) (A0_8 : Option Addr) (c0_8 : Nat) (l0_8 : List (S71)) (a1_0 : Int) (a1_1 : Int) (a1_2 : Int) (a1_3 : Int) (a1_4 : Int) (a2_0 : Int) (a2_1 : Int) (r1 : Int) (r2 : Int) (w : World) (hr0_8 : Kd.C k71 w A0_8 l0_8.length l0_8) (hc0_8 : l0_8.length ≤ c0_8) (h : course_snow.f a0_0 a0_1 a0_2 a0_3 a0_4 a0_5 a0_6 a0_7 l0_8 a1_0 a1_1 a1_2 a1_3 a1_4 a2_0 a2_1 = some (r1, r2)) :
  Calls Tryd.prog 86 #[.agg #[.int .i64 a0_0, .int .i64 a0_1, .int .i64 a0_2, .int .i64 a0_3, .int .i64 a0_4, .int .i64 a0_5, .int .i64 a0_6, .int .i64 a0_7, .slice A0_8 l0_8.length c0_8], .agg #[.int .i64 a1_0, .int .i64 a1_1, .int .i64 a1_2, .int .i64 a1_3, .int .i64 a1_4], .agg #[.int .i64 a2_0, .int .i64 a2_1]] w fun e w' => e = .returned (.tuple #[.int .i64 r1, .int .i64 r2]) ∧ Below w.heap.size w w' := by
 have hu47 := Tryd.underlying47
 have hu71 := Tryd.underlying71
 have hu103 := Tryd.underlying103
 have HR0_8 := Aside0.mk (hr0_8)
 have HC0_8 := Aside0.mk (hc0_8)
 clear hr0_8 hc0_8
 have HB := Bw.mk (Below.refl w.heap.size w)
 have H : ((course_core.f a0_0 a0_1 a0_2 a0_3 a0_4 a0_5 a0_6 a0_7 l0_8 a1_0 a1_1 a1_2 a1_3 a1_4 a2_0 a2_1).bind fun bt260 => (some (wrap64 ((wrap64 (20 * bt260.1)) + (wrap64 (a1_3 * a0_5))), wrap64 (bt260.2 + (wrap64 (a1_3 * a0_5)))))) = some (r1, r2) := h
 clear h
 replace H := Option.bind_eq_some_iff.mp H
 obtain ⟨⟨t260, t261⟩, A40, H⟩ := H
 have A4 := Aside0.mk (A40)
 clear A40
 simp only [Option.some.injEq, Prod.mk.injEq] at H
 obtain ⟨rfl, rfl⟩ := H
 go_enter Tryd.func86, Tryd.ntmps86
 go_wp2_with (first | ((with_reducible refine gate_dst (N := 3) rfl ?_); refine bxE 3 47 #[.int .i64 a0_0, .int .i64 a0_1, .int .i64 a0_2, .int .i64 a0_3, .int .i64 a0_4, .int .i64 a0_5, .int .i64 a0_6, .int .i64 a0_7, .slice A0_8 l0_8.length c0_8] (by rfl) (by rfl) (by first | (go_simp; done) | (go_simp; rfl)) ?_; intro gb257 hg w5 hbox hb; have BK257 := Bk.mk (hbox); have GE257 := eB w hg; replace HB := bS w hb; clear hb hbox hg) | ((with_reducible refine gate_dst (N := 4) rfl ?_); refine bxE 4 71 #[.int .i64 a1_0, .int .i64 a1_1, .int .i64 a1_2, .int .i64 a1_3, .int .i64 a1_4] (by rfl) (by rfl) (by first | (go_simp; done) | (go_simp; rfl)) ?_; intro gb258 hg w6 hbox hb; have BK258 := Bk.mk (hbox); have GE258 := eB w hg; replace BK257 := kB gb257 hb; replace HB := bS w hb; clear hb hbox hg) | ((with_reducible refine gate_dst (N := 5) rfl ?_); refine bxE 5 103 #[.int .i64 a2_0, .int .i64 a2_1] (by rfl) (by rfl) (by first | (go_simp; done) | (go_simp; rfl)) ?_; intro gb259 hg w7 hbox hb; have BK259 := Bk.mk (hbox); have GE259 := eB w hg; replace BK257 := kB gb257 hb; replace BK258 := kB gb258 hb; replace HB := bS w hb; clear hb hbox hg; obtain ⟨hcz10_0, hcz10_1, hcz10_2, hcz10_3, hcz10_4, hcz10_5, hcz10_6, hcz10_7, hcz10_8, hfz10_0, hfz10_1, hfz10_2, hfz10_3, hfz10_4, hfz10_5, hfz10_6, hfz10_7, hfz10_8⟩ := cz9 BK257; obtain ⟨hcz12_0, hcz12_1, hcz12_2, hcz12_3, hcz12_4, hfz12_0, hfz12_1, hfz12_2, hfz12_3, hfz12_4⟩ := cz5 BK258; obtain ⟨hcz13_0, hcz13_1, hfz13_0, hfz13_1⟩ := cz2 BK259) | (go_at_call 82; (with_reducible refine (course_core.calls a0_0 a0_1 a0_2 a0_3 a0_4 a0_5 a0_6 a0_7 _ _ l0_8 a1_0 a1_1 a1_2 a1_3 a1_4 a2_0 a2_1 t260 t261 _ ?side1 ?side2 A4.out).mono ?_); (case side1 => exact cP (Kd.C_below HR0_8.out HB.out)); (case side2 => exact HC0_8.out); rintro e w14 ⟨rfl, hb⟩; replace BK257 := kB gb257 hb; replace BK258 := kB gb258 hb; replace BK259 := kB gb259 hb; replace HB := bS w hb; (try clear hb)) | ((with_reducible refine gate_dst (N := 8) rfl ?_); refine bxE 8 103 #[.int .i64 0, .int .i64 0] (by rfl) (by rfl) (by first | (go_simp; done) | (go_simp; rfl)) ?_; intro gb262 hg w15 hbox hb; have BK262 := Bk.mk (hbox); have GE262 := eB w hg; replace BK257 := kB gb257 hb; replace BK258 := kB gb258 hb; replace BK259 := kB gb259 hb; replace HB := bS w hb; clear hb hbox hg; obtain ⟨hcz19_0, hcz19_1, hfz19_0, hfz19_1⟩ := cz2 BK262; obtain ⟨hcz20_0, hcz20_1, hcz20_2, hcz20_3, hcz20_4, hfz20_0, hfz20_1, hfz20_2, hfz20_3, hfz20_4⟩ := cz5 BK258; obtain ⟨hcz21_0, hcz21_1, hcz21_2, hcz21_3, hcz21_4, hcz21_5, hcz21_6, hcz21_7, hcz21_8, hfz21_0, hfz21_1, hfz21_2, hfz21_3, hfz21_4, hfz21_5, hfz21_6, hfz21_7, hfz21_8⟩ := cz9 BK257))
 repeat (go_quiet (first | ((with_reducible refine gate_dst (N := 3) rfl ?_); refine bxE 3 47 #[.int .i64 a0_0, .int .i64 a0_1, .int .i64 a0_2, .int .i64 a0_3, .int .i64 a0_4, .int .i64 a0_5, .int .i64 a0_6, .int .i64 a0_7, .slice A0_8 l0_8.length c0_8] (by rfl) (by rfl) (by first | (go_simp; done) | (go_simp; rfl)) ?_; intro gb257 hg w5 hbox hb; have BK257 := Bk.mk (hbox); have GE257 := eB w hg; replace HB := bS w hb; clear hb hbox hg) | ((with_reducible refine gate_dst (N := 4) rfl ?_); refine bxE 4 71 #[.int .i64 a1_0, .int .i64 a1_1, .int .i64 a1_2, .int .i64 a1_3, .int .i64 a1_4] (by rfl) (by rfl) (by first | (go_simp; done) | (go_simp; rfl)) ?_; intro gb258 hg w6 hbox hb; have BK258 := Bk.mk (hbox); have GE258 := eB w hg; replace BK257 := kB gb257 hb; replace HB := bS w hb; clear hb hbox hg) | ((with_reducible refine gate_dst (N := 5) rfl ?_); refine bxE 5 103 #[.int .i64 a2_0, .int .i64 a2_1] (by rfl) (by rfl) (by first | (go_simp; done) | (go_simp; rfl)) ?_; intro gb259 hg w7 hbox hb; have BK259 := Bk.mk (hbox); have GE259 := eB w hg; replace BK257 := kB gb257 hb; replace BK258 := kB gb258 hb; replace HB := bS w hb; clear hb hbox hg; obtain ⟨hcz10_0, hcz10_1, hcz10_2, hcz10_3, hcz10_4, hcz10_5, hcz10_6, hcz10_7, hcz10_8, hfz10_0, hfz10_1, hfz10_2, hfz10_3, hfz10_4, hfz10_5, hfz10_6, hfz10_7, hfz10_8⟩ := cz9 BK257; obtain ⟨hcz12_0, hcz12_1, hcz12_2, hcz12_3, hcz12_4, hfz12_0, hfz12_1, hfz12_2, hfz12_3, hfz12_4⟩ := cz5 BK258; obtain ⟨hcz13_0, hcz13_1, hfz13_0, hfz13_1⟩ := cz2 BK259) | (go_at_call 82; (with_reducible refine (course_core.calls a0_0 a0_1 a0_2 a0_3 a0_4 a0_5 a0_6 a0_7 _ _ l0_8 a1_0 a1_1 a1_2 a1_3 a1_4 a2_0 a2_1 t260 t261 _ ?side1 ?side2 A4.out).mono ?_); (case side1 => exact cP (Kd.C_below HR0_8.out HB.out)); (case side2 => exact HC0_8.out); rintro e w14 ⟨rfl, hb⟩; replace BK257 := kB gb257 hb; replace BK258 := kB gb258 hb; replace BK259 := kB gb259 hb; replace HB := bS w hb; (try clear hb)) | ((with_reducible refine gate_dst (N := 8) rfl ?_); refine bxE 8 103 #[.int .i64 0, .int .i64 0] (by rfl) (by rfl) (by first | (go_simp; done) | (go_simp; rfl)) ?_; intro gb262 hg w15 hbox hb; have BK262 := Bk.mk (hbox); have GE262 := eB w hg; replace BK257 := kB gb257 hb; replace BK258 := kB gb258 hb; replace BK259 := kB gb259 hb; replace HB := bS w hb; clear hb hbox hg; obtain ⟨hcz19_0, hcz19_1, hfz19_0, hfz19_1⟩ := cz2 BK262; obtain ⟨hcz20_0, hcz20_1, hcz20_2, hcz20_3, hcz20_4, hfz20_0, hfz20_1, hfz20_2, hfz20_3, hfz20_4⟩ := cz5 BK258; obtain ⟨hcz21_0, hcz21_1, hcz21_2, hcz21_3, hcz21_4, hcz21_5, hcz21_6, hcz21_7, hcz21_8, hfz21_0, hfz21_1, hfz21_2, hfz21_3, hfz21_4, hfz21_5, hfz21_6, hfz21_7, hfz21_8⟩ := cz9 BK257)); try go_wp2_with (first | ((with_reducible refine gate_dst (N := 3) rfl ?_); refine bxE 3 47 #[.int .i64 a0_0, .int .i64 a0_1, .int .i64 a0_2, .int .i64 a0_3, .int .i64 a0_4, .int .i64 a0_5, .int .i64 a0_6, .int .i64 a0_7, .slice A0_8 l0_8.length c0_8] (by rfl) (by rfl) (by first | (go_simp; done) | (go_simp; rfl)) ?_; intro gb257 hg w5 hbox hb; have BK257 := Bk.mk (hbox); have GE257 := eB w hg; replace HB := bS w hb; clear hb hbox hg) | ((with_reducible refine gate_dst (N := 4) rfl ?_); refine bxE 4 71 #[.int .i64 a1_0, .int .i64 a1_1, .int .i64 a1_2, .int .i64 a1_3, .int .i64 a1_4] (by rfl) (by rfl) (by first | (go_simp; done) | (go_simp; rfl)) ?_; intro gb258 hg w6 hbox hb; have BK258 := Bk.mk (hbox); have GE258 := eB w hg; replace BK257 := kB gb257 hb; replace HB := bS w hb; clear hb hbox hg) | ((with_reducible refine gate_dst (N := 5) rfl ?_); refine bxE 5 103 #[.int .i64 a2_0, .int .i64 a2_1] (by rfl) (by rfl) (by first | (go_simp; done) | (go_simp; rfl)) ?_; intro gb259 hg w7 hbox hb; have BK259 := Bk.mk (hbox); have GE259 := eB w hg; replace BK257 := kB gb257 hb; replace BK258 := kB gb258 hb; replace HB := bS w hb; clear hb hbox hg; obtain ⟨hcz10_0, hcz10_1, hcz10_2, hcz10_3, hcz10_4, hcz10_5, hcz10_6, hcz10_7, hcz10_8, hfz10_0, hfz10_1, hfz10_2, hfz10_3, hfz10_4, hfz10_5, hfz10_6, hfz10_7, hfz10_8⟩ := cz9 BK257; obtain ⟨hcz12_0, hcz12_1, hcz12_2, hcz12_3, hcz12_4, hfz12_0, hfz12_1, hfz12_2, hfz12_3, hfz12_4⟩ := cz5 BK258; obtain ⟨hcz13_0, hcz13_1, hfz13_0, hfz13_1⟩ := cz2 BK259) | (go_at_call 82; (with_reducible refine (course_core.calls a0_0 a0_1 a0_2 a0_3 a0_4 a0_5 a0_6 a0_7 _ _ l0_8 a1_0 a1_1 a1_2 a1_3 a1_4 a2_0 a2_1 t260 t261 _ ?side1 ?side2 A4.out).mono ?_); (case side1 => exact cP (Kd.C_below HR0_8.out HB.out)); (case side2 => exact HC0_8.out); rintro e w14 ⟨rfl, hb⟩; replace BK257 := kB gb257 hb; replace BK258 := kB gb258 hb; replace BK259 := kB gb259 hb; replace HB := bS w hb; (try clear hb)) | ((with_reducible refine gate_dst (N := 8) rfl ?_); refine bxE 8 103 #[.int .i64 0, .int .i64 0] (by rfl) (by rfl) (by first | (go_simp; done) | (go_simp; rfl)) ?_; intro gb262 hg w15 hbox hb; have BK262 := Bk.mk (hbox); have GE262 := eB w hg; replace BK257 := kB gb257 hb; replace BK258 := kB gb258 hb; replace BK259 := kB gb259 hb; replace HB := bS w hb; clear hb hbox hg; obtain ⟨hcz19_0, hcz19_1, hfz19_0, hfz19_1⟩ := cz2 BK262; obtain ⟨hcz20_0, hcz20_1, hcz20_2, hcz20_3, hcz20_4, hfz20_0, hfz20_1, hfz20_2, hfz20_3, hfz20_4⟩ := cz5 BK258; obtain ⟨hcz21_0, hcz21_1, hcz21_2, hcz21_3, hcz21_4, hcz21_5, hcz21_6, hcz21_7, hcz21_8, hfz21_0, hfz21_1, hfz21_2, hfz21_3, hfz21_4, hfz21_5, hfz21_6, hfz21_7, hfz21_8⟩ := cz9 BK257)))
 go_ret2
 exact ⟨by first | rfl | (simp [errW_none, errW_some] <;> rfl) | (simp [*, errW_none, errW_some] <;> rfl), bw w⟩
def course_up.f (a0 : Int) (a1 : Int) : Option (Int) := if a1 = 0 then (none) else (some (wrap64 (Int.tdiv (wrap64 ((wrap64 (a0 + a1)) - 1)) a1)))
set_option maxHeartbeats 8000000 in
set_option maxRecDepth 100000 in
theorem course_up.calls (a0 : Int) (a1 : Int) (r : Int) (w : World) (h : course_up.f a0 a1 = some r) :
  Calls Tryd.prog 87 #[.int .i64 a0, .int .i64 a1] w fun e w' => e = .returned (.int .i64 r) ∧ Drawn0 w w' := by
 have H : (if a1 = 0 then (none) else (some (wrap64 (Int.tdiv (wrap64 ((wrap64 (a0 + a1)) - 1)) a1)))) = some r := h
 clear h
 by_cases c3 : a1 = 0
 ·
  rw [if_pos c3] at H
  exact absurd H (by simp)
 ·
  rw [if_neg c3] at H
  have c3b0 : (a1 == 0) = false := beq_eq_false_iff_ne.mpr c3
  have c3b1 : (a1 != 0) = true := bne_iff_ne.mpr c3
  obtain rfl := Option.some.inj H
  go_enter Tryd.func87, Tryd.ntmps87
  go_wp2
  go_ret
  exact ⟨by first | rfl | (simp; done) | (simp [*]; done), by repeat (first | exact Drawn0.refl _ | apply Drawn0.step)⟩
def course_Water.f (k : Nat) (a0_0 : Int) (a0_1 : Int) (l0_2 : List (S26)) (a1_0 : Int) (a1_1 : Int) (a1_2 : Int) (a1_3 : Int) (a1_4 : Int) (a1_5 : Int) (a1_6 : Int) (a1_7 : Int) (l1_8 : List (S71)) (a2 : Int) (a3 : Int) : Option (Int × Int × Int) := (course_look.f k a0_0 a0_1 l0_2 a1_0 a1_1 a1_2 a1_3 a1_4 a1_5 a1_6 a1_7 l1_8 a2 a3).bind fun bt266 => (if bt266.2.2 = 0 then (if 0 ≤ a2 then (if a2 < (l1_8.length : Int) then ((course_snow.f a1_0 a1_1 a1_2 a1_3 a1_4 a1_5 a1_6 a1_7 l1_8 ((rd_T71 l1_8 a2).f0) ((rd_T71 l1_8 a2).f1) ((rd_T71 l1_8 a2).f2) ((rd_T71 l1_8 a2).f3) ((rd_T71 l1_8 a2).f4) bt266.1 bt266.2.1).bind fun bt271 => (if (wrap64 (20 * a1_5)) = 0 then (none) else ((course_up.f bt271.2 a1_5).bind fun t273 => (some (wrap64 (Int.tdiv bt271.1 (wrap64 (20 * a1_5))), t273, 0))))) else (none)) else (none)) else (some (0, 0, bt266.2.2)))
theorem course_Water.mono : ∀ a0 a1 a2 a3 a4 a5 a6 a7 a8 a9 a10 a11 a12 a13 k, LeO (course_Water.f k a0 a1 a2 a3 a4 a5 a6 a7 a8 a9 a10 a11 a12 a13) (course_Water.f (k + 1) a0 a1 a2 a3 a4 a5 a6 a7 a8 a9 a10 a11 a12 a13) := by
 intro a0 a1 a2 a3 a4 a5 a6 a7 a8 a9 a10 a11 a12 a13 k
 unfold course_Water.f
 repeat' first
   | (with_reducible exact course_look.mono _ _ _ _ _ _ _ _ _ _ _ _ _ _ _)
   | (with_reducible exact LeO.refl _)
   | (with_reducible exact LeO.none _)
   | (with_reducible refine LeO.ite ?_ ?_)
   | (with_reducible refine LeO.bind ?_ (fun _ => ?_))
   | exact course_look.mono _ _ _ _ _ _ _ _ _ _ _ _ _ _ _
   | exact LeO.none _
   | refine LeO.ite ?_ ?_
   | refine LeO.bind ?_ (fun _ => ?_)
def course_Water.T4 : Bool × List (List Nat × List Nat) := (true, [([], []), ([], []), ([1], [1]), ([], []), ([2, 3], [2, 3]), ([4], [4]), ([], []), ([0, 5, 6], [0, 5, 6]), ([7], [7]), ([8], [8]), ([8], [8]), ([9, 7, 0, 1, 2, 3, 4, 5, 6, 7, 8, 9], [9]), ([10, 11, 0, 1, 2, 3, 4, 5, 6, 7, 8, 9, 10, 11], [10])])
def course_Water.B4 : List Nat := [0, 0, 2, 0, 14, 30, 0, 127, 255, 511, 511, 1023, 4095]
theorem course_Water.tab4 : rtab .any (opsOf Tryd.f29 4) = course_Water.T4 := by kernel_rfl
theorem course_Water.bits4 : waitsOk course_Water.T4.2 course_Water.B4 = true := by kernel_rfl
def course_Water.T5 : Bool × List (List Nat × List Nat) := (true, [([], []), ([], []), ([1], [1]), ([2], [2]), ([0, 3], [0, 3]), ([], []), ([], []), ([6], [6]), ([5, 7], [5, 7]), ([4, 8], [4, 8]), ([9, 8, 0, 1, 2, 3, 4, 5, 6, 7, 8, 9], [9]), ([10, 0, 1, 2, 3, 4, 5, 6, 7, 8, 9, 10], [])])
def course_Water.B5 : List Nat := [0, 0, 2, 6, 15, 0, 0, 64, 224, 511, 1023, 2047]
theorem course_Water.tab5 : rtab .any (opsOf Tryd.f29 5) = course_Water.T5 := by kernel_rfl
theorem course_Water.bits5 : waitsOk course_Water.T5.2 course_Water.B5 = true := by kernel_rfl
set_option maxHeartbeats 8000000 in
set_option maxRecDepth 100000 in
theorem course_Water.calls (k : Nat) (a0_0 : Int) (a0_1 : Int) (A0_2 : Option Addr) (c0_2 : Nat) (l0_2 : List (S26)) (a1_0 : Int) (a1_1 : Int) (a1_2 : Int) (a1_3 : Int) (a1_4 : Int) (a1_5 : Int) (a1_6 : Int) (a1_7 : Int) (A1_8 : Option Addr) (c1_8 : Nat) (l1_8 : List (S71)) (a2 : Int) (a3 : Int) (r1 : Int) (r2 : Int) (r3 : Int) (w : World) (hr0_2 : Kd.C k26 w A0_2 l0_2.length l0_2) (hc0_2 : l0_2.length ≤ c0_2) (hr1_8 : Kd.C k71 w A1_8 l1_8.length l1_8) (hc1_8 : l1_8.length ≤ c1_8) (h : course_Water.f k a0_0 a0_1 l0_2 a1_0 a1_1 a1_2 a1_3 a1_4 a1_5 a1_6 a1_7 l1_8 a2 a3 = some (r1, r2, r3)) :
  Calls Tryd.prog 29 #[.agg #[.int .i64 a0_0, .int .i64 a0_1, .slice A0_2 l0_2.length c0_2], .agg #[.int .i64 a1_0, .int .i64 a1_1, .int .i64 a1_2, .int .i64 a1_3, .int .i64 a1_4, .int .i64 a1_5, .int .i64 a1_6, .int .i64 a1_7, .slice A1_8 l1_8.length c1_8], .int .i64 a2, .int .i64 a3] w fun e w' => e = .returned (.tuple #[.agg #[.int .i64 r1, .int .i64 r2], .int .i64 r3]) ∧ Below w.heap.size w w' := by
 have hu24 := Tryd.underlying24
 have hu47 := Tryd.underlying47
 have hu40 := Tryd.underlying40
 have hu103 := Tryd.underlying103
 have hu71 := Tryd.underlying71
 have HR0_2 := Aside0.mk (hr0_2)
 have HC0_2 := Aside0.mk (hc0_2)
 clear hr0_2 hc0_2
 have HR1_8 := Aside0.mk (hr1_8)
 have HC1_8 := Aside0.mk (hc1_8)
 clear hr1_8 hc1_8
 have HB := Bw.mk (Below.refl w.heap.size w)
 have H : ((course_look.f k a0_0 a0_1 l0_2 a1_0 a1_1 a1_2 a1_3 a1_4 a1_5 a1_6 a1_7 l1_8 a2 a3).bind fun bt266 => (if bt266.2.2 = 0 then (if 0 ≤ a2 then (if a2 < (l1_8.length : Int) then ((course_snow.f a1_0 a1_1 a1_2 a1_3 a1_4 a1_5 a1_6 a1_7 l1_8 ((rd_T71 l1_8 a2).f0) ((rd_T71 l1_8 a2).f1) ((rd_T71 l1_8 a2).f2) ((rd_T71 l1_8 a2).f3) ((rd_T71 l1_8 a2).f4) bt266.1 bt266.2.1).bind fun bt271 => (if (wrap64 (20 * a1_5)) = 0 then (none) else ((course_up.f bt271.2 a1_5).bind fun t273 => (some (wrap64 (Int.tdiv bt271.1 (wrap64 (20 * a1_5))), t273, 0))))) else (none)) else (none)) else (some (0, 0, bt266.2.2)))) = some (r1, r2, r3) := h
 clear h
 replace H := Option.bind_eq_some_iff.mp H
 obtain ⟨⟨t266, t267, t268⟩, A50, H⟩ := H
 have A5 := Aside0.mk (A50)
 clear A50
 by_cases c6 : t268 = 0
 ·
  rw [if_pos c6] at H
  have c6b0 : (t268 == 0) = true := beq_iff_eq.mpr c6
  have c6b1 : (t268 != 0) = false := bne_eq_false_iff_eq.mpr c6
  clear c6
  by_cases c7 : 0 ≤ a2
  ·
   rw [if_pos c7] at H
   have c7b0 : decide (0 ≤ a2) = true := decide_eq_true c7
   clear c7
   by_cases c8 : a2 < (l1_8.length : Int)
   ·
    rw [if_pos c8] at H
    have c8b0 : decide (a2 < (l1_8.length : Int)) = true := decide_eq_true c8
    clear c8
    replace H := Option.bind_eq_some_iff.mp H
    obtain ⟨⟨t271, t272⟩, A90, H⟩ := H
    have A9 := Aside0.mk (A90)
    clear A90
    by_cases c10 : (wrap64 (20 * a1_5)) = 0
    ·
     rw [if_pos c10] at H
     exact absurd H (by simp)
    ·
     rw [if_neg c10] at H
     have c10b0 : ((wrap64 (20 * a1_5)) == 0) = false := beq_eq_false_iff_ne.mpr c10
     have c10b1 : ((wrap64 (20 * a1_5)) != 0) = true := bne_iff_ne.mpr c10
     replace H := Option.bind_eq_some_iff.mp H
     obtain ⟨t273, A110, H⟩ := H
     have A11 := Aside0.mk (A110)
     clear A110
     simp only [Option.some.injEq, Prod.mk.injEq] at H
     obtain ⟨rfl, rfl, rfl⟩ := H
     go_enter Tryd.func29, Tryd.ntmps29
     try go_wp2_with (first | ((with_reducible refine gate_dst (N := 4) rfl ?_); refine bxE 4 24 #[.int .i64 a0_0, .int .i64 a0_1, .slice A0_2 l0_2.length c0_2] (by rfl) (by rfl) (by first | (go_simp; done) | (go_simp; rfl)) ?_; intro gb263 hg w12 hbox hb; have BK263 := Bk.mk (hbox); have GE263 := eB w hg; replace HB := bS w hb; clear hb hbox hg) | ((with_reducible refine gate_dst (N := 5) rfl ?_); refine bxE 5 47 #[.int .i64 a1_0, .int .i64 a1_1, .int .i64 a1_2, .int .i64 a1_3, .int .i64 a1_4, .int .i64 a1_5, .int .i64 a1_6, .int .i64 a1_7, .slice A1_8 l1_8.length c1_8] (by rfl) (by rfl) (by first | (go_simp; done) | (go_simp; rfl)) ?_; intro gb264 hg w13 hbox hb; have BK264 := Bk.mk (hbox); have GE264 := eB w hg; have NB263_264 := nB gb263 hg; replace BK263 := kB gb263 hb; replace HB := bS w hb; clear hb hbox hg) | ((with_reducible refine gate_dst (N := 8) rfl ?_); refine bxE 8 40 #[.int .i64 0, .int .i64 0] (by rfl) (by rfl) (by first | (go_simp; done) | (go_simp; rfl)) ?_; intro gb265 hg w14 hbox hb; have BK265 := Bk.mk (hbox); have GE265 := eB w hg; have NB263_265 := nB gb263 hg; have NB264_265 := nB gb264 hg; replace BK263 := kB gb263 hb; replace BK264 := kB gb264 hb; replace HB := bS w hb; clear hb hbox hg; obtain ⟨hnb15, hnc15⟩ := nn NB263_264; obtain ⟨hnb16, hnc16⟩ := nn NB263_265; obtain ⟨hcz17_0, hcz17_1, hcz17_2, hfz17_0, hfz17_1, hfz17_2⟩ := cz3 BK263; obtain ⟨hnb18, hnc18⟩ := nn NB264_265; obtain ⟨hcz19_0, hcz19_1, hcz19_2, hcz19_3, hcz19_4, hcz19_5, hcz19_6, hcz19_7, hcz19_8, hfz19_0, hfz19_1, hfz19_2, hfz19_3, hfz19_4, hfz19_5, hfz19_6, hfz19_7, hfz19_8⟩ := cz9 BK264) | ((with_reducible refine gate_callee (f := 81) rfl ?_); refine goesLM (some 19) rfl rfl Tryd.func81 (by kernel_rfl) rfl #[.agg #[.int .i64 a0_0, .int .i64 a0_1, .slice A0_2 l0_2.length c0_2], .agg #[.int .i64 a1_0, .int .i64 a1_1, .int .i64 a1_2, .int .i64 a1_3, .int .i64 a1_4, .int .i64 a1_5, .int .i64 a1_6, .int .i64 a1_7, .slice A1_8 l1_8.length c1_8], .int .i64 a2, .int .i64 a3] rfl (by rfl) ?_; (with_reducible refine (course_look.calls k a0_0 a0_1 _ _ l0_2 a1_0 a1_1 a1_2 a1_3 a1_4 a1_5 a1_6 a1_7 _ _ l1_8 a2 a3 t266 t267 t268 _ ?side1 ?side2 ?side3 ?side4 A5.out).mono ?_); (case side1 => exact cP (Kd.C_below HR0_2.out HB.out)); (case side2 => exact HC0_2.out); (case side3 => exact cP (Kd.C_below HR1_8.out HB.out)); (case side4 => exact HC1_8.out); rintro e w20 ⟨rfl, hb⟩; refine ⟨_, rfl, ?_⟩; replace BK263 := kB gb263 hb; replace BK264 := kB gb264 hb; replace BK265 := kB gb265 hb; replace HB := bS w hb; (try clear hb)) | ((with_reducible refine gate_dst (N := 10) rfl ?_); refine bxE 10 103 #[.int .i64 0, .int .i64 0] (by rfl) (by rfl) (by first | (go_simp; done) | (go_simp; rfl)) ?_; intro gb269 hg w21 hbox hb; have BK269 := Bk.mk (hbox); have GE269 := eB w hg; have NB263_269 := nB gb263 hg; have NB264_269 := nB gb264 hg; have NB265_269 := nB gb265 hg; replace BK263 := kB gb263 hb; replace BK264 := kB gb264 hb; replace BK265 := kB gb265 hb; replace HB := bS w hb; clear hb hbox hg; obtain ⟨hnc22, hnb22⟩ := nn NB263_269; obtain ⟨hnc23, hnb23⟩ := nn NB264_269; obtain ⟨hnc24, hnb24⟩ := nn NB265_269; obtain ⟨hcz25_0, hcz25_1, hfz25_0, hfz25_1⟩ := cz2 BK269))
     have n0_ : Bk ((w21.setCell ⟨gb269, 0, none⟩ (.int .i64 t266)).setCell ⟨gb269, 1, none⟩ (.int .i64 t267)) gb263 (.cells #[.int .i64 a0_0, .int .i64 a0_1, .slice A0_2 l0_2.length c0_2] 24 (0, 0)) := ⟨bko gb263 (by rfl)⟩
     have n1_ : Bk ((w21.setCell ⟨gb269, 0, none⟩ (.int .i64 t266)).setCell ⟨gb269, 1, none⟩ (.int .i64 t267)) gb264 (.cells #[.int .i64 a1_0, .int .i64 a1_1, .int .i64 a1_2, .int .i64 a1_3, .int .i64 a1_4, .int .i64 a1_5, .int .i64 a1_6, .int .i64 a1_7, .slice A1_8 l1_8.length c1_8] 47 (0, 0)) := ⟨bko gb264 (by rfl)⟩
     have n2_ : Bk ((w21.setCell ⟨gb269, 0, none⟩ (.int .i64 t266)).setCell ⟨gb269, 1, none⟩ (.int .i64 t267)) gb265 (.cells #[.int .i64 0, .int .i64 0] 40 (0, 0)) := ⟨bko gb265 (by rfl)⟩
     have n3_ : Bk ((w21.setCell ⟨gb269, 0, none⟩ (.int .i64 t266)).setCell ⟨gb269, 1, none⟩ (.int .i64 t267)) gb269 (.cells #[.int .i64 t266, .int .i64 t267] 103 (0, 0)) := ⟨bko gb269 (by rfl)⟩
     have n4_ : Bw w ((w21.setCell ⟨gb269, 0, none⟩ (.int .i64 t266)).setCell ⟨gb269, 1, none⟩ (.int .i64 t267)) := inferInstance
     (try clear BK263)
     (try clear BK264)
     (try clear BK265)
     (try clear BK269)
     (try clear HB)
     generalize ((w21.setCell ⟨gb269, 0, none⟩ (.int .i64 t266)).setCell ⟨gb269, 1, none⟩ (.int .i64 t267)) = w26 at n0_ n1_ n2_ n3_ n4_ ⊢
     have BK263 := n0_
     have BK264 := n1_
     have BK265 := n2_
     have BK269 := n3_
     have HB := n4_
     clear n0_ n1_ n2_ n3_ n4_
     have n0_ := Bk.mk (blk_drew BK263.out)
     have n1_ := Bk.mk (blk_drew BK264.out)
     have n2_ := Bk.mk (blk_drew BK265.out)
     have n3_ := Bk.mk (blk_drew BK269.out)
     have n4_ := Bw.mk (below_drew1 HB.out)
     clear BK263 BK264 BK265 BK269 HB
     have BK263 := n0_
     have BK264 := n1_
     have BK265 := n2_
     have BK269 := n3_
     have HB := n4_
     clear n0_ n1_ n2_ n3_ n4_
     have p270 : 0 ≤ (a2 : Int) := of_decide_eq_true (by first | (with_reducible assumption) | assumption)
     have q270 : a2 < (l1_8.length : Int) := of_decide_eq_true (by first | (with_reducible assumption) | assumption)
     obtain ⟨ad270, e270, hx270_0, hx270_1, hx270_2, hx270_3, hx270_4⟩ := at_T71 HR1_8.out a2 p270 q270
     have hw270_4 := hx270_4
     have hw270_3 := hx270_3
     have hw270_2 := hx270_2
     have hw270_1 := hx270_1
     have hw270_0 := hx270_0
     cases e270
     replace hx270_0 := cB HB hx270_0
     replace hx270_1 := cB HB hx270_1
     replace hx270_2 := cB HB hx270_2
     replace hx270_3 := cB HB hx270_3
     replace hx270_4 := cB HB hx270_4
     replace p270 := eq_true p270
     replace q270 := eq_true q270
     refine start_ (n := 13) (S := fun w' => w'.cell? ⟨gb264, 0, none⟩ = some (.int .i64 a1_0) ∧ w'.cell? ⟨gb264, 1, none⟩ = some (.int .i64 a1_1) ∧ w'.cell? ⟨gb264, 2, none⟩ = some (.int .i64 a1_2) ∧ w'.cell? ⟨gb264, 3, none⟩ = some (.int .i64 a1_3) ∧ w'.cell? ⟨gb264, 4, none⟩ = some (.int .i64 a1_4) ∧ w'.cell? ⟨gb264, 5, none⟩ = some (.int .i64 a1_5) ∧ w'.cell? ⟨gb264, 6, none⟩ = some (.int .i64 a1_6) ∧ w'.cell? ⟨gb264, 7, none⟩ = some (.int .i64 a1_7) ∧ w'.cell? ⟨gb264, 8, none⟩ = some (.slice (some ad270) l1_8.length c1_8) ∧ w'.cell? ⟨gb269, 0, none⟩ = some (.int .i64 t266) ∧ w'.cell? ⟨gb269, 1, none⟩ = some (.int .i64 t267) ∧ w'.cell? (ad270.add ((a2).toNat * 5)) = some (.int .i64 ((rd_T71 l1_8 a2).f0)) ∧ w'.cell? ⟨(ad270.add ((a2).toNat * 5)).block, (ad270.add ((a2).toNat * 5)).off + 1, none⟩ = some (.int .i64 ((rd_T71 l1_8 a2).f1)) ∧ w'.cell? ⟨(ad270.add ((a2).toNat * 5)).block, (ad270.add ((a2).toNat * 5)).off + 2, none⟩ = some (.int .i64 ((rd_T71 l1_8 a2).f2)) ∧ w'.cell? ⟨(ad270.add ((a2).toNat * 5)).block, (ad270.add ((a2).toNat * 5)).off + 3, none⟩ = some (.int .i64 ((rd_T71 l1_8 a2).f3)) ∧ w'.cell? ⟨(ad270.add ((a2).toNat * 5)).block, (ad270.add ((a2).toNat * 5)).off + 4, none⟩ = some (.int .i64 ((rd_T71 l1_8 a2).f4))) (ds := []) #[false, false, false, false, false, false, false, false, false, false, false, false, false] (by kernel_rfl) rfl rfl ⟨bc BK264 0, bc BK264 1, bc BK264 2, bc BK264 3, bc BK264 4, bc BK264 5, bc BK264 6, bc BK264 7, bc BK264 8, bc BK269 0, bc BK269 1, ((HB.out.cell (World.block_lt_of_cell? w _ hw270_0)).trans hw270_0), ((HB.out.cell (World.block_lt_of_cell? w _ hw270_1)).trans hw270_1), ((HB.out.cell (World.block_lt_of_cell? w _ hw270_2)).trans hw270_2), ((HB.out.cell (World.block_lt_of_cell? w _ hw270_3)).trans hw270_3), ((HB.out.cell (World.block_lt_of_cell? w _ hw270_4)).trans hw270_4)⟩ (fun hHeld => ?_); refine with_tabW course_Water.tab4 course_Water.bits4 (fun HT_ HW_ => ?_)
     generalize w26.drew = w27 at BK263 BK264 BK265 BK269 HB hx270_0 hx270_1 hx270_2 hx270_3 hx270_4 hHeld ⊢
     refine pS 1 (some 28) rfl rfl (any_of HT_.out (by kernel_rfl)) (fun _ _ _ h => h) (by rfl) (fun w' => by go_simp; with_reducible rfl) (by simp only [Act.put, List.setIfInBounds_toArray, List.set_cons_zero, List.set_cons_succ, i64_w]; rfl) ?_
     refine pS 3 (some 30) rfl rfl (any_of HT_.out (by kernel_rfl)) (fun _ _ _ h => h) (by rfl) (fun w' => by go_simp; with_reducible rfl) (by simp only [Act.put, List.setIfInBounds_toArray, List.set_cons_zero, List.set_cons_succ, i64_w]; rfl) ?_
     refine tS 0 (some 27) rfl rfl (take_ofW HT_.out HW_.out (by kernel_rfl)) (fun _ _ _ h => h) (by rfl) (by rintro w' ⟨s0, s1, s2, s3, s4, s5, s6, s7, s8, s9, s10, s11, s12, s13, s14, s15⟩; go_simp; with_reducible rfl) hHeld (by simp only [Act.put, List.setIfInBounds_toArray, List.set_cons_zero, List.set_cons_succ, i64_w]; rfl) ?_
     refine tS 2 (some 29) rfl rfl (take_ofW HT_.out HW_.out (by kernel_rfl)) (fun _ _ _ h => h) (by rfl) (by rintro w' ⟨s0, s1, s2, s3, s4, s5, s6, s7, s8, s9, s10, s11, s12, s13, s14, s15⟩; go_simp; with_reducible rfl) hHeld (by simp only [Act.put, List.setIfInBounds_toArray, List.set_cons_zero, List.set_cons_succ, i64_w]; rfl) ?_
     refine pS 4 (some 31) rfl rfl (any_of HT_.out (by kernel_rfl)) (fun _ _ _ h => h) (by rfl) (fun w' => by go_simp; with_reducible rfl) (by simp only [Act.put, List.setIfInBounds_toArray, List.set_cons_zero, List.set_cons_succ, i64_w]; rfl) ?_
     refine tS 5 (some 32) rfl rfl (take_ofW HT_.out HW_.out (by kernel_rfl)) (fun _ _ _ h => h) (by rfl) (by rintro w' ⟨s0, s1, s2, s3, s4, s5, s6, s7, s8, s9, s10, s11, s12, s13, s14, s15⟩; go_simp; with_reducible rfl) hHeld (by simp only [Act.put, List.setIfInBounds_toArray, List.set_cons_zero, List.set_cons_succ, i64_w]; rfl) ?_
     refine tS 6 (some 33) rfl rfl (take_ofW HT_.out HW_.out (by kernel_rfl)) (fun _ _ _ h => h) (by rfl) (by rintro w' ⟨s0, s1, s2, s3, s4, s5, s6, s7, s8, s9, s10, s11, s12, s13, s14, s15⟩; go_simp; with_reducible rfl) hHeld (by simp only [Act.put, List.setIfInBounds_toArray, List.set_cons_zero, List.set_cons_succ, i64_w]; rfl) ?_
     refine one_ (i := 7) (N := some 34) #[true, true, true, true, true, true, true, true, false, false, false, false, false] rfl rfl (one_of HT_.out (by kernel_rfl)) (by decide) (fun K hK => ?_)
     refine goesM Tryd.func86 (by kernel_rfl) rfl #[.agg #[.int .i64 a1_0, .int .i64 a1_1, .int .i64 a1_2, .int .i64 a1_3, .int .i64 a1_4, .int .i64 a1_5, .int .i64 a1_6, .int .i64 a1_7, .slice (some ad270) l1_8.length c1_8], .agg #[.int .i64 ((rd_T71 l1_8 a2).f0), .int .i64 ((rd_T71 l1_8 a2).f1), .int .i64 ((rd_T71 l1_8 a2).f2), .int .i64 ((rd_T71 l1_8 a2).f3), .int .i64 ((rd_T71 l1_8 a2).f4)], .agg #[.int .i64 t266, .int .i64 t267]] (by rfl) rfl rfl (by rfl) ?_
     with_reducible refine (course_snow.calls a1_0 a1_1 a1_2 a1_3 a1_4 a1_5 a1_6 a1_7 _ _ l1_8 ((rd_T71 l1_8 a2).f0) ((rd_T71 l1_8 a2).f1) ((rd_T71 l1_8 a2).f2) ((rd_T71 l1_8 a2).f3) ((rd_T71 l1_8 a2).f4) t266 t267 t271 t272 _ ?side1 ?side2 A9.out).mono ?_
     (case side1 => exact cP (Kd.C_below HR1_8.out HB.out))
     (case side2 => exact HC1_8.out)
     rintro e w28 ⟨rfl, hb⟩
     refine ⟨_, rfl, ?_⟩
     replace BK263 := kB gb263 hb
     replace BK264 := kB gb264 hb
     replace BK265 := kB gb265 hb
     replace BK269 := kB gb269 hb
     replace HB := bS w hb
     (try clear hb)
     refine hK.out _ _ ⟨bc BK264 0, bc BK264 1, bc BK264 2, bc BK264 3, bc BK264 4, bc BK264 5, bc BK264 6, bc BK264 7, bc BK264 8, bc BK269 0, bc BK269 1, ((HB.out.cell (World.block_lt_of_cell? w _ hw270_0)).trans hw270_0), ((HB.out.cell (World.block_lt_of_cell? w _ hw270_1)).trans hw270_1), ((HB.out.cell (World.block_lt_of_cell? w _ hw270_2)).trans hw270_2), ((HB.out.cell (World.block_lt_of_cell? w _ hw270_3)).trans hw270_3), ((HB.out.cell (World.block_lt_of_cell? w _ hw270_4)).trans hw270_4)⟩ (fun hHeld => ?_)
     clear hK K
     refine norm_ (a' := ?_) ?_ ?_
     rotate_left
     ·
      show Act.put _ (some 34) _ = _
      simp only [Act.put, List.setIfInBounds_toArray, List.set_cons_zero, List.set_cons_succ, i64_w]
      rfl
     refine pS 8 (some 26) rfl rfl (any_of HT_.out (by kernel_rfl)) (fun _ _ _ h => h) (by rfl) (fun w' => by go_simp; with_reducible rfl) (by simp only [Act.put, List.setIfInBounds_toArray, List.set_cons_zero, List.set_cons_succ, i64_w]; rfl) ?_
     refine pS 9 (some 35) rfl rfl (any_of HT_.out (by kernel_rfl)) (fun _ _ _ h => h) (by rfl) (fun w' => by go_simp; with_reducible rfl) (by simp only [Act.put, List.setIfInBounds_toArray, List.set_cons_zero, List.set_cons_succ, i64_w]; rfl) ?_
     refine pS 10 (some 36) rfl rfl (any_of HT_.out (by kernel_rfl)) (fun _ _ _ h => h) (by rfl) (fun w' => by go_simp; with_reducible rfl) (by simp only [Act.put, List.setIfInBounds_toArray, List.set_cons_zero, List.set_cons_succ, i64_w]; rfl) ?_
     refine pS 11 (some 12) rfl rfl (any_of HT_.out (by kernel_rfl)) (fun _ _ _ h => h) (by rfl) (fun w' => by go_simp; with_reducible rfl) (by simp only [Act.put, List.setIfInBounds_toArray, List.set_cons_zero, List.set_cons_succ, i64_w]; rfl) ?_
     refine pS 12 (some 13) rfl rfl (any_of HT_.out (by kernel_rfl)) (fun _ _ _ h => h) (by rfl) (fun w' => by go_simp; with_reducible rfl) (by simp only [Act.put, List.setIfInBounds_toArray, List.set_cons_zero, List.set_cons_succ, i64_w]; rfl) ?_
     refine done_ (done_of HT_.out (by kernel_rfl)) ?_
     try go_wp2
     have n0_ := Bk.mk (blk_drew BK263.out)
     have n1_ := Bk.mk (blk_drew BK264.out)
     have n2_ := Bk.mk (blk_drew BK265.out)
     have n3_ := Bk.mk (blk_drew BK269.out)
     have n4_ := Bw.mk (below_drew1 HB.out)
     clear BK263 BK264 BK265 BK269 HB
     have BK263 := n0_
     have BK264 := n1_
     have BK265 := n2_
     have BK269 := n3_
     have HB := n4_
     clear n0_ n1_ n2_ n3_ n4_
     refine start_ (n := 12) (S := fun w' => w'.cell? ⟨gb264, 0, none⟩ = some (.int .i64 a1_0) ∧ w'.cell? ⟨gb264, 1, none⟩ = some (.int .i64 a1_1) ∧ w'.cell? ⟨gb264, 2, none⟩ = some (.int .i64 a1_2) ∧ w'.cell? ⟨gb264, 3, none⟩ = some (.int .i64 a1_3) ∧ w'.cell? ⟨gb264, 4, none⟩ = some (.int .i64 a1_4) ∧ w'.cell? ⟨gb264, 5, none⟩ = some (.int .i64 a1_5) ∧ w'.cell? ⟨gb264, 6, none⟩ = some (.int .i64 a1_6) ∧ w'.cell? ⟨gb264, 7, none⟩ = some (.int .i64 a1_7) ∧ w'.cell? ⟨gb264, 8, none⟩ = some (.slice (some ad270) l1_8.length c1_8)) (ds := []) #[false, false, false, false, false, false, false, false, false, false, false, false] (by kernel_rfl) rfl rfl ⟨bc BK264 0, bc BK264 1, bc BK264 2, bc BK264 3, bc BK264 4, bc BK264 5, bc BK264 6, bc BK264 7, bc BK264 8⟩ (fun hHeld => ?_); refine with_tabW course_Water.tab5 course_Water.bits5 (fun HT_ HW_ => ?_)
     generalize w28.drew = w29 at BK263 BK264 BK265 BK269 HB hHeld ⊢
     refine pS 0 (some 37) rfl rfl (any_of HT_.out (by kernel_rfl)) (fun _ _ _ h => h) (by rfl) (fun w' => by go_simp; with_reducible rfl) (by simp only [Act.put, List.setIfInBounds_toArray, List.set_cons_zero, List.set_cons_succ, i64_w]; rfl) ?_
     refine pS 1 (some 38) rfl rfl (any_of HT_.out (by kernel_rfl)) (fun _ _ _ h => h) (by rfl) (fun w' => by go_simp; with_reducible rfl) (by simp only [Act.put, List.setIfInBounds_toArray, List.set_cons_zero, List.set_cons_succ, i64_w]; rfl) ?_
     refine pS 5 (some 42) rfl rfl (any_of HT_.out (by kernel_rfl)) (fun _ _ _ h => h) (by rfl) (fun w' => by go_simp; with_reducible rfl) (by simp only [Act.put, List.setIfInBounds_toArray, List.set_cons_zero, List.set_cons_succ, i64_w]; rfl) ?_
     refine pS 6 (some 43) rfl rfl (any_of HT_.out (by kernel_rfl)) (fun _ _ _ h => h) (by rfl) (fun w' => by go_simp; with_reducible rfl) (by simp only [Act.put, List.setIfInBounds_toArray, List.set_cons_zero, List.set_cons_succ, i64_w]; rfl) ?_
     refine tS 2 (some 39) rfl rfl (take_ofW HT_.out HW_.out (by kernel_rfl)) (fun _ _ _ h => h) (by rfl) (by rintro w' ⟨s0, s1, s2, s3, s4, s5, s6, s7, s8⟩; go_simp; with_reducible rfl) hHeld (by simp only [Act.put, List.setIfInBounds_toArray, List.set_cons_zero, List.set_cons_succ, i64_w]; rfl) ?_
     refine pS 3 (some 40) rfl rfl (any_of HT_.out (by kernel_rfl)) (fun _ _ _ h => h) (by rfl) (fun w' => by go_simp; with_reducible rfl) (by simp only [Act.put, List.setIfInBounds_toArray, List.set_cons_zero, List.set_cons_succ, i64_w]; rfl) ?_
     refine pS 4 (some 41) rfl rfl (any_of HT_.out (by kernel_rfl)) (fun _ _ _ h => h) (by rfl) (fun w' => by go_simp; with_reducible rfl) (by simp only [Act.put, List.setIfInBounds_toArray, List.set_cons_zero, List.set_cons_succ, i64_w]; rfl) ?_
     refine tS 7 (some 44) rfl rfl (take_ofW HT_.out HW_.out (by kernel_rfl)) (fun _ _ _ h => h) (by rfl) (by rintro w' ⟨s0, s1, s2, s3, s4, s5, s6, s7, s8⟩; go_simp; with_reducible rfl) hHeld (by simp only [Act.put, List.setIfInBounds_toArray, List.set_cons_zero, List.set_cons_succ, i64_w]; rfl) ?_
     refine one_ (i := 8) (N := some 45) #[true, true, true, true, true, true, true, true, true, false, false, false] rfl rfl (one_of HT_.out (by kernel_rfl)) (by decide) (fun K hK => ?_)
     refine goesM Tryd.func87 (by kernel_rfl) rfl #[.int .i64 t272, .int .i64 a1_5] (by rfl) rfl rfl (by rfl) ?_
     with_reducible refine (course_up.calls t272 a1_5 t273 _ A11.out).mono ?_
     rintro e w' ⟨rfl, ⟨nd, rfl⟩⟩
     refine ⟨_, rfl, ?_⟩
     refine hK.out _ _ ⟨bc BK264 0, bc BK264 1, bc BK264 2, bc BK264 3, bc BK264 4, bc BK264 5, bc BK264 6, bc BK264 7, bc BK264 8⟩ (fun hHeld => ?_)
     clear hK K
     refine norm_ (a' := ?_) ?_ ?_
     rotate_left
     ·
      show Act.put _ (some 45) _ = _
      simp only [Act.put, List.setIfInBounds_toArray, List.set_cons_zero, List.set_cons_succ, i64_w]
      rfl
     refine pS 9 (some 46) rfl rfl (any_of HT_.out (by kernel_rfl)) (fun _ _ _ h => h) (by rfl) (fun w' => by go_simp; with_reducible rfl) (by simp only [Act.put, List.setIfInBounds_toArray, List.set_cons_zero, List.set_cons_succ, i64_w]; rfl) ?_
     refine one_ (i := 10) (N := none) #[true, true, true, true, true, true, true, true, true, true, true, false] rfl rfl (one_of HT_.out (by kernel_rfl)) (by decide) (fun K hK => ?_)
     have hs30 : w29.cell? ⟨gb265, 0, none⟩ = some (.int .i64 0) := bc BK265 0
     have hfs30 := blk_frozen BK265.out 0
     have hns30_0 := NB263_265.out
     have hns30_1 := NB264_265.out
     have hns30_3 := NB265_269.out.symm
     have hms30_0 := NB263_265.out.symm
     have hms30_1 := NB264_265.out.symm
     have hms30_3 := NB265_269.out
     have hs31 : w29.cell? ⟨gb265, 1, none⟩ = some (.int .i64 0) := bc BK265 1
     have hfs31 := blk_frozen BK265.out 1
     have hns31_0 := NB263_265.out
     have hns31_1 := NB264_265.out
     have hns31_3 := NB265_269.out.symm
     have hms31_0 := NB263_265.out.symm
     have hms31_1 := NB264_265.out.symm
     have hms31_3 := NB265_269.out
     refine skip_ (w1 := ?_) (by rfl) rfl ?_ ?_
     rotate_left
     ·
      go_simp
      rfl
     refine hK.out _ _ ⟨((cell_far (p := ⟨gb265, _, none⟩) NB264_265.out _).trans (((cell_far (p := ⟨gb265, _, none⟩) NB264_265.out _).trans (hHeld.1)))), ((cell_far (p := ⟨gb265, _, none⟩) NB264_265.out _).trans (((cell_far (p := ⟨gb265, _, none⟩) NB264_265.out _).trans (hHeld.2.1)))), ((cell_far (p := ⟨gb265, _, none⟩) NB264_265.out _).trans (((cell_far (p := ⟨gb265, _, none⟩) NB264_265.out _).trans (hHeld.2.2.1)))), ((cell_far (p := ⟨gb265, _, none⟩) NB264_265.out _).trans (((cell_far (p := ⟨gb265, _, none⟩) NB264_265.out _).trans (hHeld.2.2.2.1)))), ((cell_far (p := ⟨gb265, _, none⟩) NB264_265.out _).trans (((cell_far (p := ⟨gb265, _, none⟩) NB264_265.out _).trans (hHeld.2.2.2.2.1)))), ((cell_far (p := ⟨gb265, _, none⟩) NB264_265.out _).trans (((cell_far (p := ⟨gb265, _, none⟩) NB264_265.out _).trans (hHeld.2.2.2.2.2.1)))), ((cell_far (p := ⟨gb265, _, none⟩) NB264_265.out _).trans (((cell_far (p := ⟨gb265, _, none⟩) NB264_265.out _).trans (hHeld.2.2.2.2.2.2.1)))), ((cell_far (p := ⟨gb265, _, none⟩) NB264_265.out _).trans (((cell_far (p := ⟨gb265, _, none⟩) NB264_265.out _).trans (hHeld.2.2.2.2.2.2.2.1)))), ((cell_far (p := ⟨gb265, _, none⟩) NB264_265.out _).trans (((cell_far (p := ⟨gb265, _, none⟩) NB264_265.out _).trans (hHeld.2.2.2.2.2.2.2.2))))⟩ (fun hHeld => ?_)
     clear hK K
     refine pS 11 (some 9) rfl rfl (any_of HT_.out (by kernel_rfl)) (fun _ _ _ h => h) (by rfl) (fun w' => by go_simp; with_reducible rfl) (by simp only [Act.put, List.setIfInBounds_toArray, List.set_cons_zero, List.set_cons_succ, i64_w]; rfl) ?_
     refine done_ (done_of HT_.out (by kernel_rfl)) ?_
     try go_wp2
     all_goals (refine bodyPost_ret (results_ct rfl _ _ gb265 40 #[.int .i64 (wrap64 (Int.tdiv t271 (wrap64 (20 * a1_5)))), .int .i64 t273] (0, 0) _ rfl (bko gb265 (by rfl)) Tryd.underlying40 rfl (by kernel_rfl)) rfl ?_; exact ⟨by first | rfl | (simp [errW_none, errW_some] <;> rfl) | (simp [*, errW_none, errW_some] <;> rfl), bw w⟩)
   ·
    rw [if_neg c8] at H
    exact absurd H (by simp)
  ·
   rw [if_neg c7] at H
   exact absurd H (by simp)
 ·
  rw [if_neg c6] at H
  have c6b0 : (t268 == 0) = false := beq_eq_false_iff_ne.mpr c6
  have c6b1 : (t268 != 0) = true := bne_iff_ne.mpr c6
  simp only [Option.some.injEq, Prod.mk.injEq] at H
  obtain ⟨rfl, rfl, rfl⟩ := H
  go_enter Tryd.func29, Tryd.ntmps29
  go_wp2_with (first | ((with_reducible refine gate_dst (N := 4) rfl ?_); refine bxE 4 24 #[.int .i64 a0_0, .int .i64 a0_1, .slice A0_2 l0_2.length c0_2] (by rfl) (by rfl) (by first | (go_simp; done) | (go_simp; rfl)) ?_; intro gb263 hg w32 hbox hb; have BK263 := Bk.mk (hbox); have GE263 := eB w hg; replace HB := bS w hb; clear hb hbox hg) | ((with_reducible refine gate_dst (N := 5) rfl ?_); refine bxE 5 47 #[.int .i64 a1_0, .int .i64 a1_1, .int .i64 a1_2, .int .i64 a1_3, .int .i64 a1_4, .int .i64 a1_5, .int .i64 a1_6, .int .i64 a1_7, .slice A1_8 l1_8.length c1_8] (by rfl) (by rfl) (by first | (go_simp; done) | (go_simp; rfl)) ?_; intro gb264 hg w33 hbox hb; have BK264 := Bk.mk (hbox); have GE264 := eB w hg; have NB263_264 := nB gb263 hg; replace BK263 := kB gb263 hb; replace HB := bS w hb; clear hb hbox hg) | ((with_reducible refine gate_dst (N := 8) rfl ?_); refine bxE 8 40 #[.int .i64 0, .int .i64 0] (by rfl) (by rfl) (by first | (go_simp; done) | (go_simp; rfl)) ?_; intro gb265 hg w34 hbox hb; have BK265 := Bk.mk (hbox); have GE265 := eB w hg; have NB263_265 := nB gb263 hg; have NB264_265 := nB gb264 hg; replace BK263 := kB gb263 hb; replace BK264 := kB gb264 hb; replace HB := bS w hb; clear hb hbox hg; obtain ⟨hnb35, hnc35⟩ := nn NB263_264; obtain ⟨hnb36, hnc36⟩ := nn NB263_265; obtain ⟨hcz37_0, hcz37_1, hcz37_2, hfz37_0, hfz37_1, hfz37_2⟩ := cz3 BK263; obtain ⟨hnb38, hnc38⟩ := nn NB264_265; obtain ⟨hcz39_0, hcz39_1, hcz39_2, hcz39_3, hcz39_4, hcz39_5, hcz39_6, hcz39_7, hcz39_8, hfz39_0, hfz39_1, hfz39_2, hfz39_3, hfz39_4, hfz39_5, hfz39_6, hfz39_7, hfz39_8⟩ := cz9 BK264) | ((with_reducible refine gate_callee (f := 81) rfl ?_); refine goesLM (some 19) rfl rfl Tryd.func81 (by kernel_rfl) rfl #[.agg #[.int .i64 a0_0, .int .i64 a0_1, .slice A0_2 l0_2.length c0_2], .agg #[.int .i64 a1_0, .int .i64 a1_1, .int .i64 a1_2, .int .i64 a1_3, .int .i64 a1_4, .int .i64 a1_5, .int .i64 a1_6, .int .i64 a1_7, .slice A1_8 l1_8.length c1_8], .int .i64 a2, .int .i64 a3] rfl (by rfl) ?_; (with_reducible refine (course_look.calls k a0_0 a0_1 _ _ l0_2 a1_0 a1_1 a1_2 a1_3 a1_4 a1_5 a1_6 a1_7 _ _ l1_8 a2 a3 t266 t267 t268 _ ?side1 ?side2 ?side3 ?side4 A5.out).mono ?_); (case side1 => exact cP (Kd.C_below HR0_2.out HB.out)); (case side2 => exact HC0_2.out); (case side3 => exact cP (Kd.C_below HR1_8.out HB.out)); (case side4 => exact HC1_8.out); rintro e w40 ⟨rfl, hb⟩; refine ⟨_, rfl, ?_⟩; replace BK263 := kB gb263 hb; replace BK264 := kB gb264 hb; replace BK265 := kB gb265 hb; replace HB := bS w hb; (try clear hb)) | ((with_reducible refine gate_dst (N := 10) rfl ?_); refine bxE 10 103 #[.int .i64 0, .int .i64 0] (by rfl) (by rfl) (by first | (go_simp; done) | (go_simp; rfl)) ?_; intro gb269 hg w41 hbox hb; have BK269 := Bk.mk (hbox); have GE269 := eB w hg; have NB263_269 := nB gb263 hg; have NB264_269 := nB gb264 hg; have NB265_269 := nB gb265 hg; replace BK263 := kB gb263 hb; replace BK264 := kB gb264 hb; replace BK265 := kB gb265 hb; replace HB := bS w hb; clear hb hbox hg; obtain ⟨hnc42, hnb42⟩ := nn NB263_269; obtain ⟨hnc43, hnb43⟩ := nn NB264_269; obtain ⟨hnc44, hnb44⟩ := nn NB265_269; obtain ⟨hcz45_0, hcz45_1, hfz45_0, hfz45_1⟩ := cz2 BK269; obtain ⟨hcz46_0, hcz46_1, hfz46_0, hfz46_1⟩ := cz2 BK265))
  all_goals (refine bodyPost_ret (results_ct rfl _ _ gb265 40 #[.int .i64 0, .int .i64 0] (0, 0) _ rfl (bko gb265 (by rfl)) Tryd.underlying40 rfl (by kernel_rfl)) rfl ?_; exact ⟨by first | rfl | (simp [errW_none, errW_some] <;> rfl) | (simp [*, errW_none, errW_some] <;> rfl), bw w⟩)
def snowlineref01_gram.f (a0 : Int) : Option (Bool) := if a0 ≥ 0 then (some (decide (a0 ≤ 1048576))) else (some false)
set_option maxHeartbeats 8000000 in
set_option maxRecDepth 100000 in
theorem snowlineref01_gram.calls (a0 : Int) (r : Bool) (w : World) (h : snowlineref01_gram.f a0 = some r) :
  Calls Tryd.prog 95 #[.int .i64 a0] w fun e w' => e = .returned (.bool r) ∧ Drawn0 w w' := by
 have H : (if a0 ≥ 0 then (some (decide (a0 ≤ 1048576))) else (some false)) = some r := h
 clear h
 by_cases c2 : a0 ≥ 0
 ·
  rw [if_pos c2] at H
  have c2b0 : decide (0 ≤ a0) = true := decide_eq_true c2
  clear c2
  obtain rfl := Option.some.inj H
  go_enter Tryd.func95, Tryd.ntmps95
  go_wp2
  go_ret
  exact ⟨by first | rfl | (simp; done) | (simp [*]; done), by repeat (first | exact Drawn0.refl _ | apply Drawn0.step)⟩
 ·
  rw [if_neg c2] at H
  have c2b0 : decide (0 ≤ a0) = false := decide_eq_false c2
  clear c2
  obtain rfl := Option.some.inj H
  go_enter Tryd.func95, Tryd.ntmps95
  go_wp2
  go_ret
  exact ⟨by first | rfl | (simp; done) | (simp [*]; done), by repeat (first | exact Drawn0.refl _ | apply Drawn0.step)⟩
def snowlineref01_stake.f (a0_0 : Int) (a0_1 : Int) (a0_2 : Int) (a0_3 : Int) (a0_4 : Int) : Option (Bool) := (snowlineref01_gram.f a0_2).bind fun t590 => ((snowlineref01_gram.f a0_4).bind fun t591 => (if a0_0 ≥ 0 then (if a0_0 ≤ 20000 then (if a0_1 ≥ 0 then (if a0_1 ≤ a0_0 then (if a0_3 ≥ 0 then (if t590 = true then (if t591 = true then (if a0_3 ≤ a0_0 then (some (decide ((wrap64 (a0_1 + a0_3)) ≤ a0_0))) else (some false)) else (some false)) else (some false)) else (if t590 = true then (if t591 = true then (some false) else (some false)) else (some false))) else (if t590 = true then (if t591 = true then (some false) else (some false)) else (some false))) else (if t590 = true then (if t591 = true then (some false) else (some false)) else (some false))) else (if t590 = true then (if t591 = true then (some false) else (some false)) else (some false))) else (if t590 = true then (if t591 = true then (some false) else (some false)) else (some false))))
set_option maxHeartbeats 8000000 in
set_option maxRecDepth 100000 in
theorem snowlineref01_stake.calls (a0_0 : Int) (a0_1 : Int) (a0_2 : Int) (a0_3 : Int) (a0_4 : Int) (r : Bool) (w : World) (h : snowlineref01_stake.f a0_0 a0_1 a0_2 a0_3 a0_4 = some r) :
  Calls Tryd.prog 96 #[.agg #[.int .i64 a0_0, .int .i64 a0_1, .int .i64 a0_2, .int .i64 a0_3, .int .i64 a0_4]] w fun e w' => e = .returned (.bool r) ∧ Below w.heap.size w w' := by
 have hu71 := Tryd.underlying71
 have HB := Bw.mk (Below.refl w.heap.size w)
 have H : ((snowlineref01_gram.f a0_2).bind fun t590 => ((snowlineref01_gram.f a0_4).bind fun t591 => (if a0_0 ≥ 0 then (if a0_0 ≤ 20000 then (if a0_1 ≥ 0 then (if a0_1 ≤ a0_0 then (if a0_3 ≥ 0 then (if t590 = true then (if t591 = true then (if a0_3 ≤ a0_0 then (some (decide ((wrap64 (a0_1 + a0_3)) ≤ a0_0))) else (some false)) else (some false)) else (some false)) else (if t590 = true then (if t591 = true then (some false) else (some false)) else (some false))) else (if t590 = true then (if t591 = true then (some false) else (some false)) else (some false))) else (if t590 = true then (if t591 = true then (some false) else (some false)) else (some false))) else (if t590 = true then (if t591 = true then (some false) else (some false)) else (some false))) else (if t590 = true then (if t591 = true then (some false) else (some false)) else (some false))))) = some r := h
 clear h
 replace H := Option.bind_eq_some_iff.mp H
 obtain ⟨t590, A20, H⟩ := H
 have A2 := Aside0.mk (A20)
 clear A20
 replace H := Option.bind_eq_some_iff.mp H
 obtain ⟨t591, A30, H⟩ := H
 have A3 := Aside0.mk (A30)
 clear A30
 by_cases c4 : a0_0 ≥ 0
 ·
  rw [if_pos c4] at H
  have c4b0 : decide (0 ≤ a0_0) = true := decide_eq_true c4
  clear c4
  by_cases c5 : a0_0 ≤ 20000
  ·
   rw [if_pos c5] at H
   have c5b0 : decide (a0_0 ≤ 20000) = true := decide_eq_true c5
   clear c5
   by_cases c6 : a0_1 ≥ 0
   ·
    rw [if_pos c6] at H
    have c6b0 : decide (0 ≤ a0_1) = true := decide_eq_true c6
    clear c6
    by_cases c7 : a0_1 ≤ a0_0
    ·
     rw [if_pos c7] at H
     have c7b0 : decide (a0_1 ≤ a0_0) = true := decide_eq_true c7
     clear c7
     by_cases c8 : a0_3 ≥ 0
     ·
      rw [if_pos c8] at H
      have c8b0 : decide (0 ≤ a0_3) = true := decide_eq_true c8
      clear c8
      by_cases c9 : t590 = true
      ·
       subst c9
       rw [if_pos rfl] at H
       by_cases c10 : t591 = true
       ·
        subst c10
        rw [if_pos rfl] at H
        by_cases c11 : a0_3 ≤ a0_0
        ·
         rw [if_pos c11] at H
         have c11b0 : decide (a0_3 ≤ a0_0) = true := decide_eq_true c11
         clear c11
         obtain rfl := Option.some.inj H
         go_enter Tryd.func96, Tryd.ntmps96
         go_wp2_with (first | ((with_reducible refine gate_dst (N := 1) rfl ?_); refine bxE 1 71 #[.int .i64 a0_0, .int .i64 a0_1, .int .i64 a0_2, .int .i64 a0_3, .int .i64 a0_4] (by rfl) (by rfl) (by first | (go_simp; done) | (go_simp; rfl)) ?_; intro gb589 hg w12 hbox hb; have BK589 := Bk.mk (hbox); have GE589 := eB w hg; replace HB := bS w hb; clear hb hbox hg; obtain ⟨hcz13_0, hcz13_1, hcz13_2, hcz13_3, hcz13_4, hfz13_0, hfz13_1, hfz13_2, hfz13_3, hfz13_4⟩ := cz5 BK589) | ((with_reducible refine gate_callee (f := 95) rfl ?_); refine goesLM (some 8) rfl rfl Tryd.func95 (by kernel_rfl) rfl #[.int .i64 a0_2] rfl (by rfl) ?_; (with_reducible refine (snowlineref01_gram.calls a0_2 true _ A2.out).mono ?_); rintro e w' ⟨rfl, ⟨nd, rfl⟩⟩; refine ⟨_, rfl, ?_⟩) | ((with_reducible refine gate_callee (f := 95) rfl ?_); refine goesLM (some 11) rfl rfl Tryd.func95 (by kernel_rfl) rfl #[.int .i64 a0_4] rfl (by rfl) ?_; (with_reducible refine (snowlineref01_gram.calls a0_4 true _ A3.out).mono ?_); rintro e w' ⟨rfl, ⟨nd, rfl⟩⟩; refine ⟨_, rfl, ?_⟩))
         go_ret
         exact ⟨by first | rfl | (simp [errW_none, errW_some] <;> rfl) | (simp [*, errW_none, errW_some] <;> rfl), bw w⟩
        ·
         rw [if_neg c11] at H
         have c11b0 : decide (a0_3 ≤ a0_0) = false := decide_eq_false c11
         clear c11
         obtain rfl := Option.some.inj H
         go_enter Tryd.func96, Tryd.ntmps96
         go_wp2_with (first | ((with_reducible refine gate_dst (N := 1) rfl ?_); refine bxE 1 71 #[.int .i64 a0_0, .int .i64 a0_1, .int .i64 a0_2, .int .i64 a0_3, .int .i64 a0_4] (by rfl) (by rfl) (by first | (go_simp; done) | (go_simp; rfl)) ?_; intro gb589 hg w14 hbox hb; have BK589 := Bk.mk (hbox); have GE589 := eB w hg; replace HB := bS w hb; clear hb hbox hg; obtain ⟨hcz15_0, hcz15_1, hcz15_2, hcz15_3, hcz15_4, hfz15_0, hfz15_1, hfz15_2, hfz15_3, hfz15_4⟩ := cz5 BK589) | ((with_reducible refine gate_callee (f := 95) rfl ?_); refine goesLM (some 8) rfl rfl Tryd.func95 (by kernel_rfl) rfl #[.int .i64 a0_2] rfl (by rfl) ?_; (with_reducible refine (snowlineref01_gram.calls a0_2 true _ A2.out).mono ?_); rintro e w' ⟨rfl, ⟨nd, rfl⟩⟩; refine ⟨_, rfl, ?_⟩) | ((with_reducible refine gate_callee (f := 95) rfl ?_); refine goesLM (some 11) rfl rfl Tryd.func95 (by kernel_rfl) rfl #[.int .i64 a0_4] rfl (by rfl) ?_; (with_reducible refine (snowlineref01_gram.calls a0_4 true _ A3.out).mono ?_); rintro e w' ⟨rfl, ⟨nd, rfl⟩⟩; refine ⟨_, rfl, ?_⟩))
         go_ret
         exact ⟨by first | rfl | (simp [errW_none, errW_some] <;> rfl) | (simp [*, errW_none, errW_some] <;> rfl), bw w⟩
       ·
        replace c10 := Bool.eq_false_iff.mpr c10
        subst c10
        rw [if_neg (show ¬ (false = true) by decide)] at H
        obtain rfl := Option.some.inj H
        go_enter Tryd.func96, Tryd.ntmps96
        go_wp2_with (first | ((with_reducible refine gate_dst (N := 1) rfl ?_); refine bxE 1 71 #[.int .i64 a0_0, .int .i64 a0_1, .int .i64 a0_2, .int .i64 a0_3, .int .i64 a0_4] (by rfl) (by rfl) (by first | (go_simp; done) | (go_simp; rfl)) ?_; intro gb589 hg w16 hbox hb; have BK589 := Bk.mk (hbox); have GE589 := eB w hg; replace HB := bS w hb; clear hb hbox hg; obtain ⟨hcz17_0, hcz17_1, hcz17_2, hcz17_3, hcz17_4, hfz17_0, hfz17_1, hfz17_2, hfz17_3, hfz17_4⟩ := cz5 BK589) | ((with_reducible refine gate_callee (f := 95) rfl ?_); refine goesLM (some 8) rfl rfl Tryd.func95 (by kernel_rfl) rfl #[.int .i64 a0_2] rfl (by rfl) ?_; (with_reducible refine (snowlineref01_gram.calls a0_2 true _ A2.out).mono ?_); rintro e w' ⟨rfl, ⟨nd, rfl⟩⟩; refine ⟨_, rfl, ?_⟩) | ((with_reducible refine gate_callee (f := 95) rfl ?_); refine goesLM (some 11) rfl rfl Tryd.func95 (by kernel_rfl) rfl #[.int .i64 a0_4] rfl (by rfl) ?_; (with_reducible refine (snowlineref01_gram.calls a0_4 false _ A3.out).mono ?_); rintro e w' ⟨rfl, ⟨nd, rfl⟩⟩; refine ⟨_, rfl, ?_⟩))
        go_ret
        exact ⟨by first | rfl | (simp [errW_none, errW_some] <;> rfl) | (simp [*, errW_none, errW_some] <;> rfl), bw w⟩
      ·
       replace c9 := Bool.eq_false_iff.mpr c9
       subst c9
       rw [if_neg (show ¬ (false = true) by decide)] at H
       obtain rfl := Option.some.inj H
       go_enter Tryd.func96, Tryd.ntmps96
       go_wp2_with (first | ((with_reducible refine gate_dst (N := 1) rfl ?_); refine bxE 1 71 #[.int .i64 a0_0, .int .i64 a0_1, .int .i64 a0_2, .int .i64 a0_3, .int .i64 a0_4] (by rfl) (by rfl) (by first | (go_simp; done) | (go_simp; rfl)) ?_; intro gb589 hg w18 hbox hb; have BK589 := Bk.mk (hbox); have GE589 := eB w hg; replace HB := bS w hb; clear hb hbox hg; obtain ⟨hcz19_0, hcz19_1, hcz19_2, hcz19_3, hcz19_4, hfz19_0, hfz19_1, hfz19_2, hfz19_3, hfz19_4⟩ := cz5 BK589) | ((with_reducible refine gate_callee (f := 95) rfl ?_); refine goesLM (some 8) rfl rfl Tryd.func95 (by kernel_rfl) rfl #[.int .i64 a0_2] rfl (by rfl) ?_; (with_reducible refine (snowlineref01_gram.calls a0_2 false _ A2.out).mono ?_); rintro e w' ⟨rfl, ⟨nd, rfl⟩⟩; refine ⟨_, rfl, ?_⟩) | ((with_reducible refine gate_callee (f := 95) rfl ?_); refine goesLM (some 11) rfl rfl Tryd.func95 (by kernel_rfl) rfl #[.int .i64 a0_4] rfl (by rfl) ?_; (with_reducible refine (snowlineref01_gram.calls a0_4 t591 _ A3.out).mono ?_); rintro e w' ⟨rfl, ⟨nd, rfl⟩⟩; refine ⟨_, rfl, ?_⟩))
       go_ret
       exact ⟨by first | rfl | (simp [errW_none, errW_some] <;> rfl) | (simp [*, errW_none, errW_some] <;> rfl), bw w⟩
     ·
      rw [if_neg c8] at H
      have c8b0 : decide (0 ≤ a0_3) = false := decide_eq_false c8
      clear c8
      by_cases c20 : t590 = true
      ·
       subst c20
       rw [if_pos rfl] at H
       by_cases c21 : t591 = true
       ·
        subst c21
        rw [if_pos rfl] at H
        obtain rfl := Option.some.inj H
        go_enter Tryd.func96, Tryd.ntmps96
        go_wp2_with (first | ((with_reducible refine gate_dst (N := 1) rfl ?_); refine bxE 1 71 #[.int .i64 a0_0, .int .i64 a0_1, .int .i64 a0_2, .int .i64 a0_3, .int .i64 a0_4] (by rfl) (by rfl) (by first | (go_simp; done) | (go_simp; rfl)) ?_; intro gb589 hg w22 hbox hb; have BK589 := Bk.mk (hbox); have GE589 := eB w hg; replace HB := bS w hb; clear hb hbox hg; obtain ⟨hcz23_0, hcz23_1, hcz23_2, hcz23_3, hcz23_4, hfz23_0, hfz23_1, hfz23_2, hfz23_3, hfz23_4⟩ := cz5 BK589) | ((with_reducible refine gate_callee (f := 95) rfl ?_); refine goesLM (some 8) rfl rfl Tryd.func95 (by kernel_rfl) rfl #[.int .i64 a0_2] rfl (by rfl) ?_; (with_reducible refine (snowlineref01_gram.calls a0_2 true _ A2.out).mono ?_); rintro e w' ⟨rfl, ⟨nd, rfl⟩⟩; refine ⟨_, rfl, ?_⟩) | ((with_reducible refine gate_callee (f := 95) rfl ?_); refine goesLM (some 11) rfl rfl Tryd.func95 (by kernel_rfl) rfl #[.int .i64 a0_4] rfl (by rfl) ?_; (with_reducible refine (snowlineref01_gram.calls a0_4 true _ A3.out).mono ?_); rintro e w' ⟨rfl, ⟨nd, rfl⟩⟩; refine ⟨_, rfl, ?_⟩))
        go_ret
        exact ⟨by first | rfl | (simp [errW_none, errW_some] <;> rfl) | (simp [*, errW_none, errW_some] <;> rfl), bw w⟩
       ·
        replace c21 := Bool.eq_false_iff.mpr c21
        subst c21
        rw [if_neg (show ¬ (false = true) by decide)] at H
        obtain rfl := Option.some.inj H
        go_enter Tryd.func96, Tryd.ntmps96
        go_wp2_with (first | ((with_reducible refine gate_dst (N := 1) rfl ?_); refine bxE 1 71 #[.int .i64 a0_0, .int .i64 a0_1, .int .i64 a0_2, .int .i64 a0_3, .int .i64 a0_4] (by rfl) (by rfl) (by first | (go_simp; done) | (go_simp; rfl)) ?_; intro gb589 hg w24 hbox hb; have BK589 := Bk.mk (hbox); have GE589 := eB w hg; replace HB := bS w hb; clear hb hbox hg; obtain ⟨hcz25_0, hcz25_1, hcz25_2, hcz25_3, hcz25_4, hfz25_0, hfz25_1, hfz25_2, hfz25_3, hfz25_4⟩ := cz5 BK589) | ((with_reducible refine gate_callee (f := 95) rfl ?_); refine goesLM (some 8) rfl rfl Tryd.func95 (by kernel_rfl) rfl #[.int .i64 a0_2] rfl (by rfl) ?_; (with_reducible refine (snowlineref01_gram.calls a0_2 true _ A2.out).mono ?_); rintro e w' ⟨rfl, ⟨nd, rfl⟩⟩; refine ⟨_, rfl, ?_⟩) | ((with_reducible refine gate_callee (f := 95) rfl ?_); refine goesLM (some 11) rfl rfl Tryd.func95 (by kernel_rfl) rfl #[.int .i64 a0_4] rfl (by rfl) ?_; (with_reducible refine (snowlineref01_gram.calls a0_4 false _ A3.out).mono ?_); rintro e w' ⟨rfl, ⟨nd, rfl⟩⟩; refine ⟨_, rfl, ?_⟩))
        go_ret
        exact ⟨by first | rfl | (simp [errW_none, errW_some] <;> rfl) | (simp [*, errW_none, errW_some] <;> rfl), bw w⟩
      ·
       replace c20 := Bool.eq_false_iff.mpr c20
       subst c20
       rw [if_neg (show ¬ (false = true) by decide)] at H
       obtain rfl := Option.some.inj H
       go_enter Tryd.func96, Tryd.ntmps96
       go_wp2_with (first | ((with_reducible refine gate_dst (N := 1) rfl ?_); refine bxE 1 71 #[.int .i64 a0_0, .int .i64 a0_1, .int .i64 a0_2, .int .i64 a0_3, .int .i64 a0_4] (by rfl) (by rfl) (by first | (go_simp; done) | (go_simp; rfl)) ?_; intro gb589 hg w26 hbox hb; have BK589 := Bk.mk (hbox); have GE589 := eB w hg; replace HB := bS w hb; clear hb hbox hg; obtain ⟨hcz27_0, hcz27_1, hcz27_2, hcz27_3, hcz27_4, hfz27_0, hfz27_1, hfz27_2, hfz27_3, hfz27_4⟩ := cz5 BK589) | ((with_reducible refine gate_callee (f := 95) rfl ?_); refine goesLM (some 8) rfl rfl Tryd.func95 (by kernel_rfl) rfl #[.int .i64 a0_2] rfl (by rfl) ?_; (with_reducible refine (snowlineref01_gram.calls a0_2 false _ A2.out).mono ?_); rintro e w' ⟨rfl, ⟨nd, rfl⟩⟩; refine ⟨_, rfl, ?_⟩) | ((with_reducible refine gate_callee (f := 95) rfl ?_); refine goesLM (some 11) rfl rfl Tryd.func95 (by kernel_rfl) rfl #[.int .i64 a0_4] rfl (by rfl) ?_; (with_reducible refine (snowlineref01_gram.calls a0_4 t591 _ A3.out).mono ?_); rintro e w' ⟨rfl, ⟨nd, rfl⟩⟩; refine ⟨_, rfl, ?_⟩))
       go_ret
       exact ⟨by first | rfl | (simp [errW_none, errW_some] <;> rfl) | (simp [*, errW_none, errW_some] <;> rfl), bw w⟩
    ·
     rw [if_neg c7] at H
     have c7b0 : decide (a0_1 ≤ a0_0) = false := decide_eq_false c7
     clear c7
     by_cases c28 : t590 = true
     ·
      subst c28
      rw [if_pos rfl] at H
      by_cases c29 : t591 = true
      ·
       subst c29
       rw [if_pos rfl] at H
       obtain rfl := Option.some.inj H
       go_enter Tryd.func96, Tryd.ntmps96
       go_wp2_with (first | ((with_reducible refine gate_dst (N := 1) rfl ?_); refine bxE 1 71 #[.int .i64 a0_0, .int .i64 a0_1, .int .i64 a0_2, .int .i64 a0_3, .int .i64 a0_4] (by rfl) (by rfl) (by first | (go_simp; done) | (go_simp; rfl)) ?_; intro gb589 hg w30 hbox hb; have BK589 := Bk.mk (hbox); have GE589 := eB w hg; replace HB := bS w hb; clear hb hbox hg; obtain ⟨hcz31_0, hcz31_1, hcz31_2, hcz31_3, hcz31_4, hfz31_0, hfz31_1, hfz31_2, hfz31_3, hfz31_4⟩ := cz5 BK589) | ((with_reducible refine gate_callee (f := 95) rfl ?_); refine goesLM (some 8) rfl rfl Tryd.func95 (by kernel_rfl) rfl #[.int .i64 a0_2] rfl (by rfl) ?_; (with_reducible refine (snowlineref01_gram.calls a0_2 true _ A2.out).mono ?_); rintro e w' ⟨rfl, ⟨nd, rfl⟩⟩; refine ⟨_, rfl, ?_⟩) | ((with_reducible refine gate_callee (f := 95) rfl ?_); refine goesLM (some 11) rfl rfl Tryd.func95 (by kernel_rfl) rfl #[.int .i64 a0_4] rfl (by rfl) ?_; (with_reducible refine (snowlineref01_gram.calls a0_4 true _ A3.out).mono ?_); rintro e w' ⟨rfl, ⟨nd, rfl⟩⟩; refine ⟨_, rfl, ?_⟩))
       go_ret
       exact ⟨by first | rfl | (simp [errW_none, errW_some] <;> rfl) | (simp [*, errW_none, errW_some] <;> rfl), bw w⟩
      ·
       replace c29 := Bool.eq_false_iff.mpr c29
       subst c29
       rw [if_neg (show ¬ (false = true) by decide)] at H
       obtain rfl := Option.some.inj H
       go_enter Tryd.func96, Tryd.ntmps96
       go_wp2_with (first | ((with_reducible refine gate_dst (N := 1) rfl ?_); refine bxE 1 71 #[.int .i64 a0_0, .int .i64 a0_1, .int .i64 a0_2, .int .i64 a0_3, .int .i64 a0_4] (by rfl) (by rfl) (by first | (go_simp; done) | (go_simp; rfl)) ?_; intro gb589 hg w32 hbox hb; have BK589 := Bk.mk (hbox); have GE589 := eB w hg; replace HB := bS w hb; clear hb hbox hg; obtain ⟨hcz33_0, hcz33_1, hcz33_2, hcz33_3, hcz33_4, hfz33_0, hfz33_1, hfz33_2, hfz33_3, hfz33_4⟩ := cz5 BK589) | ((with_reducible refine gate_callee (f := 95) rfl ?_); refine goesLM (some 8) rfl rfl Tryd.func95 (by kernel_rfl) rfl #[.int .i64 a0_2] rfl (by rfl) ?_; (with_reducible refine (snowlineref01_gram.calls a0_2 true _ A2.out).mono ?_); rintro e w' ⟨rfl, ⟨nd, rfl⟩⟩; refine ⟨_, rfl, ?_⟩) | ((with_reducible refine gate_callee (f := 95) rfl ?_); refine goesLM (some 11) rfl rfl Tryd.func95 (by kernel_rfl) rfl #[.int .i64 a0_4] rfl (by rfl) ?_; (with_reducible refine (snowlineref01_gram.calls a0_4 false _ A3.out).mono ?_); rintro e w' ⟨rfl, ⟨nd, rfl⟩⟩; refine ⟨_, rfl, ?_⟩))
       go_ret
       exact ⟨by first | rfl | (simp [errW_none, errW_some] <;> rfl) | (simp [*, errW_none, errW_some] <;> rfl), bw w⟩
     ·
      replace c28 := Bool.eq_false_iff.mpr c28
      subst c28
      rw [if_neg (show ¬ (false = true) by decide)] at H
      obtain rfl := Option.some.inj H
      go_enter Tryd.func96, Tryd.ntmps96
      go_wp2_with (first | ((with_reducible refine gate_dst (N := 1) rfl ?_); refine bxE 1 71 #[.int .i64 a0_0, .int .i64 a0_1, .int .i64 a0_2, .int .i64 a0_3, .int .i64 a0_4] (by rfl) (by rfl) (by first | (go_simp; done) | (go_simp; rfl)) ?_; intro gb589 hg w34 hbox hb; have BK589 := Bk.mk (hbox); have GE589 := eB w hg; replace HB := bS w hb; clear hb hbox hg; obtain ⟨hcz35_0, hcz35_1, hcz35_2, hcz35_3, hcz35_4, hfz35_0, hfz35_1, hfz35_2, hfz35_3, hfz35_4⟩ := cz5 BK589) | ((with_reducible refine gate_callee (f := 95) rfl ?_); refine goesLM (some 8) rfl rfl Tryd.func95 (by kernel_rfl) rfl #[.int .i64 a0_2] rfl (by rfl) ?_; (with_reducible refine (snowlineref01_gram.calls a0_2 false _ A2.out).mono ?_); rintro e w' ⟨rfl, ⟨nd, rfl⟩⟩; refine ⟨_, rfl, ?_⟩) | ((with_reducible refine gate_callee (f := 95) rfl ?_); refine goesLM (some 11) rfl rfl Tryd.func95 (by kernel_rfl) rfl #[.int .i64 a0_4] rfl (by rfl) ?_; (with_reducible refine (snowlineref01_gram.calls a0_4 t591 _ A3.out).mono ?_); rintro e w' ⟨rfl, ⟨nd, rfl⟩⟩; refine ⟨_, rfl, ?_⟩))
      go_ret
      exact ⟨by first | rfl | (simp [errW_none, errW_some] <;> rfl) | (simp [*, errW_none, errW_some] <;> rfl), bw w⟩
   ·
    rw [if_neg c6] at H
    have c6b0 : decide (0 ≤ a0_1) = false := decide_eq_false c6
    clear c6
    by_cases c36 : t590 = true
    ·
     subst c36
     rw [if_pos rfl] at H
     by_cases c37 : t591 = true
     ·
      subst c37
      rw [if_pos rfl] at H
      obtain rfl := Option.some.inj H
      go_enter Tryd.func96, Tryd.ntmps96
      go_wp2_with (first | ((with_reducible refine gate_dst (N := 1) rfl ?_); refine bxE 1 71 #[.int .i64 a0_0, .int .i64 a0_1, .int .i64 a0_2, .int .i64 a0_3, .int .i64 a0_4] (by rfl) (by rfl) (by first | (go_simp; done) | (go_simp; rfl)) ?_; intro gb589 hg w38 hbox hb; have BK589 := Bk.mk (hbox); have GE589 := eB w hg; replace HB := bS w hb; clear hb hbox hg; obtain ⟨hcz39_0, hcz39_1, hcz39_2, hcz39_3, hcz39_4, hfz39_0, hfz39_1, hfz39_2, hfz39_3, hfz39_4⟩ := cz5 BK589) | ((with_reducible refine gate_callee (f := 95) rfl ?_); refine goesLM (some 8) rfl rfl Tryd.func95 (by kernel_rfl) rfl #[.int .i64 a0_2] rfl (by rfl) ?_; (with_reducible refine (snowlineref01_gram.calls a0_2 true _ A2.out).mono ?_); rintro e w' ⟨rfl, ⟨nd, rfl⟩⟩; refine ⟨_, rfl, ?_⟩) | ((with_reducible refine gate_callee (f := 95) rfl ?_); refine goesLM (some 11) rfl rfl Tryd.func95 (by kernel_rfl) rfl #[.int .i64 a0_4] rfl (by rfl) ?_; (with_reducible refine (snowlineref01_gram.calls a0_4 true _ A3.out).mono ?_); rintro e w' ⟨rfl, ⟨nd, rfl⟩⟩; refine ⟨_, rfl, ?_⟩))
      go_ret
      exact ⟨by first | rfl | (simp [errW_none, errW_some] <;> rfl) | (simp [*, errW_none, errW_some] <;> rfl), bw w⟩
     ·
      replace c37 := Bool.eq_false_iff.mpr c37
      subst c37
      rw [if_neg (show ¬ (false = true) by decide)] at H
      obtain rfl := Option.some.inj H
      go_enter Tryd.func96, Tryd.ntmps96
      go_wp2_with (first | ((with_reducible refine gate_dst (N := 1) rfl ?_); refine bxE 1 71 #[.int .i64 a0_0, .int .i64 a0_1, .int .i64 a0_2, .int .i64 a0_3, .int .i64 a0_4] (by rfl) (by rfl) (by first | (go_simp; done) | (go_simp; rfl)) ?_; intro gb589 hg w40 hbox hb; have BK589 := Bk.mk (hbox); have GE589 := eB w hg; replace HB := bS w hb; clear hb hbox hg; obtain ⟨hcz41_0, hcz41_1, hcz41_2, hcz41_3, hcz41_4, hfz41_0, hfz41_1, hfz41_2, hfz41_3, hfz41_4⟩ := cz5 BK589) | ((with_reducible refine gate_callee (f := 95) rfl ?_); refine goesLM (some 8) rfl rfl Tryd.func95 (by kernel_rfl) rfl #[.int .i64 a0_2] rfl (by rfl) ?_; (with_reducible refine (snowlineref01_gram.calls a0_2 true _ A2.out).mono ?_); rintro e w' ⟨rfl, ⟨nd, rfl⟩⟩; refine ⟨_, rfl, ?_⟩) | ((with_reducible refine gate_callee (f := 95) rfl ?_); refine goesLM (some 11) rfl rfl Tryd.func95 (by kernel_rfl) rfl #[.int .i64 a0_4] rfl (by rfl) ?_; (with_reducible refine (snowlineref01_gram.calls a0_4 false _ A3.out).mono ?_); rintro e w' ⟨rfl, ⟨nd, rfl⟩⟩; refine ⟨_, rfl, ?_⟩))
      go_ret
      exact ⟨by first | rfl | (simp [errW_none, errW_some] <;> rfl) | (simp [*, errW_none, errW_some] <;> rfl), bw w⟩
    ·
     replace c36 := Bool.eq_false_iff.mpr c36
     subst c36
     rw [if_neg (show ¬ (false = true) by decide)] at H
     obtain rfl := Option.some.inj H
     go_enter Tryd.func96, Tryd.ntmps96
     go_wp2_with (first | ((with_reducible refine gate_dst (N := 1) rfl ?_); refine bxE 1 71 #[.int .i64 a0_0, .int .i64 a0_1, .int .i64 a0_2, .int .i64 a0_3, .int .i64 a0_4] (by rfl) (by rfl) (by first | (go_simp; done) | (go_simp; rfl)) ?_; intro gb589 hg w42 hbox hb; have BK589 := Bk.mk (hbox); have GE589 := eB w hg; replace HB := bS w hb; clear hb hbox hg; obtain ⟨hcz43_0, hcz43_1, hcz43_2, hcz43_3, hcz43_4, hfz43_0, hfz43_1, hfz43_2, hfz43_3, hfz43_4⟩ := cz5 BK589) | ((with_reducible refine gate_callee (f := 95) rfl ?_); refine goesLM (some 8) rfl rfl Tryd.func95 (by kernel_rfl) rfl #[.int .i64 a0_2] rfl (by rfl) ?_; (with_reducible refine (snowlineref01_gram.calls a0_2 false _ A2.out).mono ?_); rintro e w' ⟨rfl, ⟨nd, rfl⟩⟩; refine ⟨_, rfl, ?_⟩) | ((with_reducible refine gate_callee (f := 95) rfl ?_); refine goesLM (some 11) rfl rfl Tryd.func95 (by kernel_rfl) rfl #[.int .i64 a0_4] rfl (by rfl) ?_; (with_reducible refine (snowlineref01_gram.calls a0_4 t591 _ A3.out).mono ?_); rintro e w' ⟨rfl, ⟨nd, rfl⟩⟩; refine ⟨_, rfl, ?_⟩))
     go_ret
     exact ⟨by first | rfl | (simp [errW_none, errW_some] <;> rfl) | (simp [*, errW_none, errW_some] <;> rfl), bw w⟩
  ·
   rw [if_neg c5] at H
   have c5b0 : decide (a0_0 ≤ 20000) = false := decide_eq_false c5
   clear c5
   by_cases c44 : t590 = true
   ·
    subst c44
    rw [if_pos rfl] at H
    by_cases c45 : t591 = true
    ·
     subst c45
     rw [if_pos rfl] at H
     obtain rfl := Option.some.inj H
     go_enter Tryd.func96, Tryd.ntmps96
     go_wp2_with (first | ((with_reducible refine gate_dst (N := 1) rfl ?_); refine bxE 1 71 #[.int .i64 a0_0, .int .i64 a0_1, .int .i64 a0_2, .int .i64 a0_3, .int .i64 a0_4] (by rfl) (by rfl) (by first | (go_simp; done) | (go_simp; rfl)) ?_; intro gb589 hg w46 hbox hb; have BK589 := Bk.mk (hbox); have GE589 := eB w hg; replace HB := bS w hb; clear hb hbox hg; obtain ⟨hcz47_0, hcz47_1, hcz47_2, hcz47_3, hcz47_4, hfz47_0, hfz47_1, hfz47_2, hfz47_3, hfz47_4⟩ := cz5 BK589) | ((with_reducible refine gate_callee (f := 95) rfl ?_); refine goesLM (some 8) rfl rfl Tryd.func95 (by kernel_rfl) rfl #[.int .i64 a0_2] rfl (by rfl) ?_; (with_reducible refine (snowlineref01_gram.calls a0_2 true _ A2.out).mono ?_); rintro e w' ⟨rfl, ⟨nd, rfl⟩⟩; refine ⟨_, rfl, ?_⟩) | ((with_reducible refine gate_callee (f := 95) rfl ?_); refine goesLM (some 11) rfl rfl Tryd.func95 (by kernel_rfl) rfl #[.int .i64 a0_4] rfl (by rfl) ?_; (with_reducible refine (snowlineref01_gram.calls a0_4 true _ A3.out).mono ?_); rintro e w' ⟨rfl, ⟨nd, rfl⟩⟩; refine ⟨_, rfl, ?_⟩))
     go_ret
     exact ⟨by first | rfl | (simp [errW_none, errW_some] <;> rfl) | (simp [*, errW_none, errW_some] <;> rfl), bw w⟩
    ·
     replace c45 := Bool.eq_false_iff.mpr c45
     subst c45
     rw [if_neg (show ¬ (false = true) by decide)] at H
     obtain rfl := Option.some.inj H
     go_enter Tryd.func96, Tryd.ntmps96
     go_wp2_with (first | ((with_reducible refine gate_dst (N := 1) rfl ?_); refine bxE 1 71 #[.int .i64 a0_0, .int .i64 a0_1, .int .i64 a0_2, .int .i64 a0_3, .int .i64 a0_4] (by rfl) (by rfl) (by first | (go_simp; done) | (go_simp; rfl)) ?_; intro gb589 hg w48 hbox hb; have BK589 := Bk.mk (hbox); have GE589 := eB w hg; replace HB := bS w hb; clear hb hbox hg; obtain ⟨hcz49_0, hcz49_1, hcz49_2, hcz49_3, hcz49_4, hfz49_0, hfz49_1, hfz49_2, hfz49_3, hfz49_4⟩ := cz5 BK589) | ((with_reducible refine gate_callee (f := 95) rfl ?_); refine goesLM (some 8) rfl rfl Tryd.func95 (by kernel_rfl) rfl #[.int .i64 a0_2] rfl (by rfl) ?_; (with_reducible refine (snowlineref01_gram.calls a0_2 true _ A2.out).mono ?_); rintro e w' ⟨rfl, ⟨nd, rfl⟩⟩; refine ⟨_, rfl, ?_⟩) | ((with_reducible refine gate_callee (f := 95) rfl ?_); refine goesLM (some 11) rfl rfl Tryd.func95 (by kernel_rfl) rfl #[.int .i64 a0_4] rfl (by rfl) ?_; (with_reducible refine (snowlineref01_gram.calls a0_4 false _ A3.out).mono ?_); rintro e w' ⟨rfl, ⟨nd, rfl⟩⟩; refine ⟨_, rfl, ?_⟩))
     go_ret
     exact ⟨by first | rfl | (simp [errW_none, errW_some] <;> rfl) | (simp [*, errW_none, errW_some] <;> rfl), bw w⟩
   ·
    replace c44 := Bool.eq_false_iff.mpr c44
    subst c44
    rw [if_neg (show ¬ (false = true) by decide)] at H
    obtain rfl := Option.some.inj H
    go_enter Tryd.func96, Tryd.ntmps96
    go_wp2_with (first | ((with_reducible refine gate_dst (N := 1) rfl ?_); refine bxE 1 71 #[.int .i64 a0_0, .int .i64 a0_1, .int .i64 a0_2, .int .i64 a0_3, .int .i64 a0_4] (by rfl) (by rfl) (by first | (go_simp; done) | (go_simp; rfl)) ?_; intro gb589 hg w50 hbox hb; have BK589 := Bk.mk (hbox); have GE589 := eB w hg; replace HB := bS w hb; clear hb hbox hg; obtain ⟨hcz51_0, hcz51_1, hcz51_2, hcz51_3, hcz51_4, hfz51_0, hfz51_1, hfz51_2, hfz51_3, hfz51_4⟩ := cz5 BK589) | ((with_reducible refine gate_callee (f := 95) rfl ?_); refine goesLM (some 8) rfl rfl Tryd.func95 (by kernel_rfl) rfl #[.int .i64 a0_2] rfl (by rfl) ?_; (with_reducible refine (snowlineref01_gram.calls a0_2 false _ A2.out).mono ?_); rintro e w' ⟨rfl, ⟨nd, rfl⟩⟩; refine ⟨_, rfl, ?_⟩) | ((with_reducible refine gate_callee (f := 95) rfl ?_); refine goesLM (some 11) rfl rfl Tryd.func95 (by kernel_rfl) rfl #[.int .i64 a0_4] rfl (by rfl) ?_; (with_reducible refine (snowlineref01_gram.calls a0_4 t591 _ A3.out).mono ?_); rintro e w' ⟨rfl, ⟨nd, rfl⟩⟩; refine ⟨_, rfl, ?_⟩))
    go_ret
    exact ⟨by first | rfl | (simp [errW_none, errW_some] <;> rfl) | (simp [*, errW_none, errW_some] <;> rfl), bw w⟩
 ·
  rw [if_neg c4] at H
  have c4b0 : decide (0 ≤ a0_0) = false := decide_eq_false c4
  clear c4
  by_cases c52 : t590 = true
  ·
   subst c52
   rw [if_pos rfl] at H
   by_cases c53 : t591 = true
   ·
    subst c53
    rw [if_pos rfl] at H
    obtain rfl := Option.some.inj H
    go_enter Tryd.func96, Tryd.ntmps96
    go_wp2_with (first | ((with_reducible refine gate_dst (N := 1) rfl ?_); refine bxE 1 71 #[.int .i64 a0_0, .int .i64 a0_1, .int .i64 a0_2, .int .i64 a0_3, .int .i64 a0_4] (by rfl) (by rfl) (by first | (go_simp; done) | (go_simp; rfl)) ?_; intro gb589 hg w54 hbox hb; have BK589 := Bk.mk (hbox); have GE589 := eB w hg; replace HB := bS w hb; clear hb hbox hg; obtain ⟨hcz55_0, hcz55_1, hcz55_2, hcz55_3, hcz55_4, hfz55_0, hfz55_1, hfz55_2, hfz55_3, hfz55_4⟩ := cz5 BK589) | ((with_reducible refine gate_callee (f := 95) rfl ?_); refine goesLM (some 8) rfl rfl Tryd.func95 (by kernel_rfl) rfl #[.int .i64 a0_2] rfl (by rfl) ?_; (with_reducible refine (snowlineref01_gram.calls a0_2 true _ A2.out).mono ?_); rintro e w' ⟨rfl, ⟨nd, rfl⟩⟩; refine ⟨_, rfl, ?_⟩) | ((with_reducible refine gate_callee (f := 95) rfl ?_); refine goesLM (some 11) rfl rfl Tryd.func95 (by kernel_rfl) rfl #[.int .i64 a0_4] rfl (by rfl) ?_; (with_reducible refine (snowlineref01_gram.calls a0_4 true _ A3.out).mono ?_); rintro e w' ⟨rfl, ⟨nd, rfl⟩⟩; refine ⟨_, rfl, ?_⟩))
    go_ret
    exact ⟨by first | rfl | (simp [errW_none, errW_some] <;> rfl) | (simp [*, errW_none, errW_some] <;> rfl), bw w⟩
   ·
    replace c53 := Bool.eq_false_iff.mpr c53
    subst c53
    rw [if_neg (show ¬ (false = true) by decide)] at H
    obtain rfl := Option.some.inj H
    go_enter Tryd.func96, Tryd.ntmps96
    go_wp2_with (first | ((with_reducible refine gate_dst (N := 1) rfl ?_); refine bxE 1 71 #[.int .i64 a0_0, .int .i64 a0_1, .int .i64 a0_2, .int .i64 a0_3, .int .i64 a0_4] (by rfl) (by rfl) (by first | (go_simp; done) | (go_simp; rfl)) ?_; intro gb589 hg w56 hbox hb; have BK589 := Bk.mk (hbox); have GE589 := eB w hg; replace HB := bS w hb; clear hb hbox hg; obtain ⟨hcz57_0, hcz57_1, hcz57_2, hcz57_3, hcz57_4, hfz57_0, hfz57_1, hfz57_2, hfz57_3, hfz57_4⟩ := cz5 BK589) | ((with_reducible refine gate_callee (f := 95) rfl ?_); refine goesLM (some 8) rfl rfl Tryd.func95 (by kernel_rfl) rfl #[.int .i64 a0_2] rfl (by rfl) ?_; (with_reducible refine (snowlineref01_gram.calls a0_2 true _ A2.out).mono ?_); rintro e w' ⟨rfl, ⟨nd, rfl⟩⟩; refine ⟨_, rfl, ?_⟩) | ((with_reducible refine gate_callee (f := 95) rfl ?_); refine goesLM (some 11) rfl rfl Tryd.func95 (by kernel_rfl) rfl #[.int .i64 a0_4] rfl (by rfl) ?_; (with_reducible refine (snowlineref01_gram.calls a0_4 false _ A3.out).mono ?_); rintro e w' ⟨rfl, ⟨nd, rfl⟩⟩; refine ⟨_, rfl, ?_⟩))
    go_ret
    exact ⟨by first | rfl | (simp [errW_none, errW_some] <;> rfl) | (simp [*, errW_none, errW_some] <;> rfl), bw w⟩
  ·
   replace c52 := Bool.eq_false_iff.mpr c52
   subst c52
   rw [if_neg (show ¬ (false = true) by decide)] at H
   obtain rfl := Option.some.inj H
   go_enter Tryd.func96, Tryd.ntmps96
   go_wp2_with (first | ((with_reducible refine gate_dst (N := 1) rfl ?_); refine bxE 1 71 #[.int .i64 a0_0, .int .i64 a0_1, .int .i64 a0_2, .int .i64 a0_3, .int .i64 a0_4] (by rfl) (by rfl) (by first | (go_simp; done) | (go_simp; rfl)) ?_; intro gb589 hg w58 hbox hb; have BK589 := Bk.mk (hbox); have GE589 := eB w hg; replace HB := bS w hb; clear hb hbox hg; obtain ⟨hcz59_0, hcz59_1, hcz59_2, hcz59_3, hcz59_4, hfz59_0, hfz59_1, hfz59_2, hfz59_3, hfz59_4⟩ := cz5 BK589) | ((with_reducible refine gate_callee (f := 95) rfl ?_); refine goesLM (some 8) rfl rfl Tryd.func95 (by kernel_rfl) rfl #[.int .i64 a0_2] rfl (by rfl) ?_; (with_reducible refine (snowlineref01_gram.calls a0_2 false _ A2.out).mono ?_); rintro e w' ⟨rfl, ⟨nd, rfl⟩⟩; refine ⟨_, rfl, ?_⟩) | ((with_reducible refine gate_callee (f := 95) rfl ?_); refine goesLM (some 11) rfl rfl Tryd.func95 (by kernel_rfl) rfl #[.int .i64 a0_4] rfl (by rfl) ?_; (with_reducible refine (snowlineref01_gram.calls a0_4 t591 _ A3.out).mono ?_); rintro e w' ⟨rfl, ⟨nd, rfl⟩⟩; refine ⟨_, rfl, ?_⟩))
   go_ret
   exact ⟨by first | rfl | (simp [errW_none, errW_some] <;> rfl) | (simp [*, errW_none, errW_some] <;> rfl), bw w⟩
mutual
def snowlineref01_CheckSheet.j0 : Nat → Bool → Int → Int → Int → Int → Int → Int → Int → Int → List (S71) → Option (Int)
 | 0, _, _, _, _, _, _, _, _, _, _ => none
 | k + 1, x80, x593000, x593001, x593002, x593003, x593004, x593005, x593006, x593007, x593008 => if x80 = true then (some 12) else (snowlineref01_CheckSheet.l0 k 0 x593000 x593001 x593002 x593003 x593004 x593005 x593006 x593007 x593008)
def snowlineref01_CheckSheet.l0 : Nat → Int → Int → Int → Int → Int → Int → Int → Int → Int → List (S71) → Option (Int)
 | 0, _, _, _, _, _, _, _, _, _, _ => none
 | k + 1, x10, x593000, x593001, x593002, x593003, x593004, x593005, x593006, x593007, x593008 => if x10 < (x593008.length : Int) then (if 0 ≤ x10 then ((snowlineref01_stake.f ((rd_T71 x593008 x10).f0) ((rd_T71 x593008 x10).f1) ((rd_T71 x593008 x10).f2) ((rd_T71 x593008 x10).f3) ((rd_T71 x593008 x10).f4)).bind fun t601 => (if t601 = true then (snowlineref01_CheckSheet.l0 k (wrap64 (x10 + 1)) x593000 x593001 x593002 x593003 x593004 x593005 x593006 x593007 x593008) else (some 12))) else (none)) else (some 0)
end
def snowlineref01_CheckSheet.f (k : Nat) (a0_0 : Int) (a0_1 : Int) (a0_2 : Int) (a0_3 : Int) (a0_4 : Int) (a0_5 : Int) (a0_6 : Int) (a0_7 : Int) (l0_8 : List (S71)) : Option (Int) := (snowlineref01_Number.f a0_0).bind fun t593 => ((snowlineref01_Number.f a0_1).bind fun t594 => ((snowlineref01_Number.f a0_4).bind fun t595 => ((snowlineref01_Day.f a0_2).bind fun t596 => ((snowlineref01_Day.f a0_3).bind fun t597 => ((snowlineref01_Day.f a0_7).bind fun t598 => ((snowlineref01_gram.f a0_6).bind fun t599 => (if t593 = true then (if t594 = true then (if t595 = true then (if t596 = true then (if t597 = true then (if t598 = true then (if t599 = true then (if a0_5 < 1 then (snowlineref01_CheckSheet.j0 k true a0_0 a0_1 a0_2 a0_3 a0_4 a0_5 a0_6 a0_7 l0_8) else (if a0_5 > 1000 then (snowlineref01_CheckSheet.j0 k true a0_0 a0_1 a0_2 a0_3 a0_4 a0_5 a0_6 a0_7 l0_8) else (if (l0_8.length : Int) < 1 then (snowlineref01_CheckSheet.j0 k true a0_0 a0_1 a0_2 a0_3 a0_4 a0_5 a0_6 a0_7 l0_8) else (snowlineref01_CheckSheet.j0 k (decide ((l0_8.length : Int) > 32)) a0_0 a0_1 a0_2 a0_3 a0_4 a0_5 a0_6 a0_7 l0_8)))) else (snowlineref01_CheckSheet.j0 k true a0_0 a0_1 a0_2 a0_3 a0_4 a0_5 a0_6 a0_7 l0_8)) else (snowlineref01_CheckSheet.j0 k true a0_0 a0_1 a0_2 a0_3 a0_4 a0_5 a0_6 a0_7 l0_8)) else (snowlineref01_CheckSheet.j0 k true a0_0 a0_1 a0_2 a0_3 a0_4 a0_5 a0_6 a0_7 l0_8)) else (snowlineref01_CheckSheet.j0 k true a0_0 a0_1 a0_2 a0_3 a0_4 a0_5 a0_6 a0_7 l0_8)) else (snowlineref01_CheckSheet.j0 k true a0_0 a0_1 a0_2 a0_3 a0_4 a0_5 a0_6 a0_7 l0_8)) else (snowlineref01_CheckSheet.j0 k true a0_0 a0_1 a0_2 a0_3 a0_4 a0_5 a0_6 a0_7 l0_8)) else (snowlineref01_CheckSheet.j0 k true a0_0 a0_1 a0_2 a0_3 a0_4 a0_5 a0_6 a0_7 l0_8))))))))
set_option maxHeartbeats 8000000 in
set_option maxRecDepth 100000 in
theorem snowlineref01_CheckSheet.calls (k : Nat) (a0_0 : Int) (a0_1 : Int) (a0_2 : Int) (a0_3 : Int) (a0_4 : Int) (a0_5 : Int) (a0_6 : Int) (a0_7 : Int) (A0_8 : Option Addr) (c0_8 : Nat) (l0_8 : List (S71)) (r : Int) (w : World) (hr0_8 : Kd.C k71 w A0_8 l0_8.length l0_8) (hc0_8 : l0_8.length ≤ c0_8) (h : snowlineref01_CheckSheet.f k a0_0 a0_1 a0_2 a0_3 a0_4 a0_5 a0_6 a0_7 l0_8 = some r) :
  Calls Tryd.prog 32 #[.agg #[.int .i64 a0_0, .int .i64 a0_1, .int .i64 a0_2, .int .i64 a0_3, .int .i64 a0_4, .int .i64 a0_5, .int .i64 a0_6, .int .i64 a0_7, .slice A0_8 l0_8.length c0_8]] w fun e w' => e = .returned (.int .i64 r) ∧ Below w.heap.size w w' := by
 have hu47 := Tryd.underlying47
 have hu71 := Tryd.underlying71
 have HR0_8 := Aside0.mk (hr0_8)
 have HC0_8 := Aside0.mk (hc0_8)
 clear hr0_8 hc0_8
 have HB := Bw.mk (Below.refl w.heap.size w)
 have H : ((snowlineref01_Number.f a0_0).bind fun t593 => ((snowlineref01_Number.f a0_1).bind fun t594 => ((snowlineref01_Number.f a0_4).bind fun t595 => ((snowlineref01_Day.f a0_2).bind fun t596 => ((snowlineref01_Day.f a0_3).bind fun t597 => ((snowlineref01_Day.f a0_7).bind fun t598 => ((snowlineref01_gram.f a0_6).bind fun t599 => (if t593 = true then (if t594 = true then (if t595 = true then (if t596 = true then (if t597 = true then (if t598 = true then (if t599 = true then (if a0_5 < 1 then (snowlineref01_CheckSheet.j0 k true a0_0 a0_1 a0_2 a0_3 a0_4 a0_5 a0_6 a0_7 l0_8) else (if a0_5 > 1000 then (snowlineref01_CheckSheet.j0 k true a0_0 a0_1 a0_2 a0_3 a0_4 a0_5 a0_6 a0_7 l0_8) else (if (l0_8.length : Int) < 1 then (snowlineref01_CheckSheet.j0 k true a0_0 a0_1 a0_2 a0_3 a0_4 a0_5 a0_6 a0_7 l0_8) else (snowlineref01_CheckSheet.j0 k (decide ((l0_8.length : Int) > 32)) a0_0 a0_1 a0_2 a0_3 a0_4 a0_5 a0_6 a0_7 l0_8)))) else (snowlineref01_CheckSheet.j0 k true a0_0 a0_1 a0_2 a0_3 a0_4 a0_5 a0_6 a0_7 l0_8)) else (snowlineref01_CheckSheet.j0 k true a0_0 a0_1 a0_2 a0_3 a0_4 a0_5 a0_6 a0_7 l0_8)) else (snowlineref01_CheckSheet.j0 k true a0_0 a0_1 a0_2 a0_3 a0_4 a0_5 a0_6 a0_7 l0_8)) else (snowlineref01_CheckSheet.j0 k true a0_0 a0_1 a0_2 a0_3 a0_4 a0_5 a0_6 a0_7 l0_8)) else (snowlineref01_CheckSheet.j0 k true a0_0 a0_1 a0_2 a0_3 a0_4 a0_5 a0_6 a0_7 l0_8)) else (snowlineref01_CheckSheet.j0 k true a0_0 a0_1 a0_2 a0_3 a0_4 a0_5 a0_6 a0_7 l0_8)) else (snowlineref01_CheckSheet.j0 k true a0_0 a0_1 a0_2 a0_3 a0_4 a0_5 a0_6 a0_7 l0_8))))))))) = some r := h
 clear h
 replace H := Option.bind_eq_some_iff.mp H
 obtain ⟨t593, A20, H⟩ := H
 have A2 := Aside0.mk (A20)
 clear A20
 replace H := Option.bind_eq_some_iff.mp H
 obtain ⟨t594, A30, H⟩ := H
 have A3 := Aside0.mk (A30)
 clear A30
 replace H := Option.bind_eq_some_iff.mp H
 obtain ⟨t595, A40, H⟩ := H
 have A4 := Aside0.mk (A40)
 clear A40
 replace H := Option.bind_eq_some_iff.mp H
 obtain ⟨t596, A50, H⟩ := H
 have A5 := Aside0.mk (A50)
 clear A50
 replace H := Option.bind_eq_some_iff.mp H
 obtain ⟨t597, A60, H⟩ := H
 have A6 := Aside0.mk (A60)
 clear A60
 replace H := Option.bind_eq_some_iff.mp H
 obtain ⟨t598, A70, H⟩ := H
 have A7 := Aside0.mk (A70)
 clear A70
 replace H := Option.bind_eq_some_iff.mp H
 obtain ⟨t599, A80, H⟩ := H
 have A8 := Aside0.mk (A80)
 clear A80
 have HC9 := Aside0.mk (H)
 clear H
 go_enter Tryd.func32, Tryd.ntmps32
 go_upto_region 8 with (first | ((with_reducible refine gate_dst (N := 1) rfl ?_); (try (refine gate_guard (by rfl) ?_; dsimp only)); refine bxE 1 47 #[.int .i64 a0_0, .int .i64 a0_1, .int .i64 a0_2, .int .i64 a0_3, .int .i64 a0_4, .int .i64 a0_5, .int .i64 a0_6, .int .i64 a0_7, .slice A0_8 l0_8.length c0_8] (by rfl) (by rfl) (by first | (go_simp; done) | (go_simp; rfl)) ?_; intro gb592 hg w10 hbox hb; have BK592 := Bk.mk (hbox); have GE592 := eB w hg; replace HB := bS w hb; clear hb hbox hg; obtain ⟨hcz11_0, hcz11_1, hcz11_2, hcz11_3, hcz11_4, hcz11_5, hcz11_6, hcz11_7, hcz11_8, hfz11_0, hfz11_1, hfz11_2, hfz11_3, hfz11_4, hfz11_5, hfz11_6, hfz11_7, hfz11_8⟩ := cz9 BK592) | ((with_reducible refine gate_callee (f := 94) rfl ?_); refine goesLM (some 14) rfl rfl Tryd.func94 (by kernel_rfl) rfl #[.int .i64 a0_0] rfl (by rfl) ?_; (with_reducible refine (snowlineref01_Number.calls a0_0 t593 _ A2.out).mono ?_); rintro e w' ⟨rfl, ⟨nd, rfl⟩⟩; refine ⟨_, rfl, ?_⟩) | ((with_reducible refine gate_callee (f := 94) rfl ?_); refine goesLM (some 17) rfl rfl Tryd.func94 (by kernel_rfl) rfl #[.int .i64 a0_1] rfl (by rfl) ?_; (with_reducible refine (snowlineref01_Number.calls a0_1 t594 _ A3.out).mono ?_); rintro e w' ⟨rfl, ⟨nd, rfl⟩⟩; refine ⟨_, rfl, ?_⟩) | ((with_reducible refine gate_callee (f := 94) rfl ?_); refine goesLM (some 20) rfl rfl Tryd.func94 (by kernel_rfl) rfl #[.int .i64 a0_4] rfl (by rfl) ?_; (with_reducible refine (snowlineref01_Number.calls a0_4 t595 _ A4.out).mono ?_); rintro e w' ⟨rfl, ⟨nd, rfl⟩⟩; refine ⟨_, rfl, ?_⟩) | ((with_reducible refine gate_callee (f := 75) rfl ?_); refine goesLM (some 23) rfl rfl Tryd.func75 (by kernel_rfl) rfl #[.int .i64 a0_2] rfl (by rfl) ?_; (with_reducible refine (snowlineref01_Day.calls a0_2 t596 _ A5.out).mono ?_); rintro e w' ⟨rfl, ⟨nd, rfl⟩⟩; refine ⟨_, rfl, ?_⟩) | ((with_reducible refine gate_callee (f := 75) rfl ?_); refine goesLM (some 26) rfl rfl Tryd.func75 (by kernel_rfl) rfl #[.int .i64 a0_3] rfl (by rfl) ?_; (with_reducible refine (snowlineref01_Day.calls a0_3 t597 _ A6.out).mono ?_); rintro e w' ⟨rfl, ⟨nd, rfl⟩⟩; refine ⟨_, rfl, ?_⟩) | ((with_reducible refine gate_callee (f := 75) rfl ?_); refine goesLM (some 29) rfl rfl Tryd.func75 (by kernel_rfl) rfl #[.int .i64 a0_7] rfl (by rfl) ?_; (with_reducible refine (snowlineref01_Day.calls a0_7 t598 _ A7.out).mono ?_); rintro e w' ⟨rfl, ⟨nd, rfl⟩⟩; refine ⟨_, rfl, ?_⟩) | ((with_reducible refine gate_callee (f := 95) rfl ?_); refine goesLM (some 32) rfl rfl Tryd.func95 (by kernel_rfl) rfl #[.int .i64 a0_6] rfl (by rfl) ?_; (with_reducible refine (snowlineref01_gram.calls a0_6 t599 _ A8.out).mono ?_); rintro e w' ⟨rfl, ⟨nd, rfl⟩⟩; refine ⟨_, rfl, ?_⟩))
 (try simp only [Act.put, List.setIfInBounds_toArray, List.set_cons_zero, List.set_cons_succ])
 go_cut [80] (fun v80 wc => ∃ (kq : Nat) (x80_8 : Bool), v80 = .bool x80_8 ∧ Aside0 (snowlineref01_CheckSheet.j0 kq x80_8 a0_0 a0_1 a0_2 a0_3 a0_4 a0_5 a0_6 a0_7 l0_8 = some r) ∧ Aside0 (kq ≤ k) ∧ Bk wc gb592 (.cells #[.int .i64 a0_0, .int .i64 a0_1, .int .i64 a0_2, .int .i64 a0_3, .int .i64 a0_4, .int .i64 a0_5, .int .i64 a0_6, .int .i64 a0_7, (.slice A0_8 l0_8.length c0_8)] 47 (0, 0)) ∧ Bw w wc)
 case first =>
  have H := HC9.out
  clear HC9
  by_cases c12 : t593 = true
  ·
   subst c12
   rw [if_pos rfl] at H
   by_cases c13 : t594 = true
   ·
    subst c13
    rw [if_pos rfl] at H
    by_cases c14 : t595 = true
    ·
     subst c14
     rw [if_pos rfl] at H
     by_cases c15 : t596 = true
     ·
      subst c15
      rw [if_pos rfl] at H
      by_cases c16 : t597 = true
      ·
       subst c16
       rw [if_pos rfl] at H
       by_cases c17 : t598 = true
       ·
        subst c17
        rw [if_pos rfl] at H
        by_cases c18 : t599 = true
        ·
         subst c18
         rw [if_pos rfl] at H
         by_cases c19 : a0_5 < 1
         ·
          rw [if_pos c19] at H
          have c19b0 : decide (a0_5 < 1) = true := decide_eq_true c19
          clear c19
          (first | rw [c19b0] | (simp only [i64_w]; rw [c19b0]) | skip)
          have H' := Aside0.mk H
          clear H
          obtain ⟨hcz20_0, hcz20_1, hcz20_2, hcz20_3, hcz20_4, hcz20_5, hcz20_6, hcz20_7, hcz20_8, hfz20_0, hfz20_1, hfz20_2, hfz20_3, hfz20_4, hfz20_5, hfz20_6, hfz20_7, hfz20_8⟩ := cz9 BK592
          go_wp2
          go_meet
          case rel => exact ⟨_, (true), (by first | rfl | (simp; done) | (simp [*]; done)), H', ⟨by first | omega | exact Nat.le_refl _⟩, inferInstance, inferInstance⟩
         ·
          rw [if_neg c19] at H
          have c19b0 : decide (a0_5 < 1) = false := decide_eq_false c19
          clear c19
          (first | rw [c19b0] | (simp only [i64_w]; rw [c19b0]) | skip)
          by_cases c21 : a0_5 > 1000
          ·
           rw [if_pos c21] at H
           have c21b0 : decide (1000 < a0_5) = true := decide_eq_true c21
           clear c21
           have H' := Aside0.mk H
           clear H
           obtain ⟨hcz22_0, hcz22_1, hcz22_2, hcz22_3, hcz22_4, hcz22_5, hcz22_6, hcz22_7, hcz22_8, hfz22_0, hfz22_1, hfz22_2, hfz22_3, hfz22_4, hfz22_5, hfz22_6, hfz22_7, hfz22_8⟩ := cz9 BK592
           go_wp2
           go_meet
           case rel => exact ⟨_, (true), (by first | rfl | (simp; done) | (simp [*]; done)), H', ⟨by first | omega | exact Nat.le_refl _⟩, inferInstance, inferInstance⟩
          ·
           rw [if_neg c21] at H
           have c21b0 : decide (1000 < a0_5) = false := decide_eq_false c21
           clear c21
           by_cases c23 : (l0_8.length : Int) < 1
           ·
            rw [if_pos c23] at H
            have c23b0 : decide ((l0_8.length : Int) < 1) = true := decide_eq_true c23
            have c23b1 : decide (l0_8.length < 1) = true := decide_eq_true (by omega)
            clear c23
            have H' := Aside0.mk H
            clear H
            obtain ⟨hcz24_0, hcz24_1, hcz24_2, hcz24_3, hcz24_4, hcz24_5, hcz24_6, hcz24_7, hcz24_8, hfz24_0, hfz24_1, hfz24_2, hfz24_3, hfz24_4, hfz24_5, hfz24_6, hfz24_7, hfz24_8⟩ := cz9 BK592
            go_wp2
            go_meet
            case rel => exact ⟨_, (true), (by first | rfl | (simp; done) | (simp [*]; done)), H', ⟨by first | omega | exact Nat.le_refl _⟩, inferInstance, inferInstance⟩
           ·
            rw [if_neg c23] at H
            have c23b0 : decide ((l0_8.length : Int) < 1) = false := decide_eq_false c23
            have c23b1 : decide (l0_8.length < 1) = false := decide_eq_false (by omega)
            clear c23
            have H' := Aside0.mk H
            clear H
            obtain ⟨hcz25_0, hcz25_1, hcz25_2, hcz25_3, hcz25_4, hcz25_5, hcz25_6, hcz25_7, hcz25_8, hfz25_0, hfz25_1, hfz25_2, hfz25_3, hfz25_4, hfz25_5, hfz25_6, hfz25_7, hfz25_8⟩ := cz9 BK592
            go_wp2
            go_meet
            case rel => exact ⟨_, (decide ((l0_8.length : Int) > 32)), (by first | rfl | (simp; done) | (simp [*]; done)), H', ⟨by first | omega | exact Nat.le_refl _⟩, inferInstance, inferInstance⟩
        ·
         replace c18 := Bool.eq_false_iff.mpr c18
         subst c18
         rw [if_neg (show ¬ (false = true) by decide)] at H
         have H' := Aside0.mk H
         clear H
         go_wp2
         go_meet
         case rel => exact ⟨_, (true), (by first | rfl | (simp; done) | (simp [*]; done)), H', ⟨by first | omega | exact Nat.le_refl _⟩, inferInstance, inferInstance⟩
       ·
        replace c17 := Bool.eq_false_iff.mpr c17
        subst c17
        rw [if_neg (show ¬ (false = true) by decide)] at H
        have H' := Aside0.mk H
        clear H
        go_wp2
        go_meet
        case rel => exact ⟨_, (true), (by first | rfl | (simp; done) | (simp [*]; done)), H', ⟨by first | omega | exact Nat.le_refl _⟩, inferInstance, inferInstance⟩
      ·
       replace c16 := Bool.eq_false_iff.mpr c16
       subst c16
       rw [if_neg (show ¬ (false = true) by decide)] at H
       have H' := Aside0.mk H
       clear H
       go_wp2
       go_meet
       case rel => exact ⟨_, (true), (by first | rfl | (simp; done) | (simp [*]; done)), H', ⟨by first | omega | exact Nat.le_refl _⟩, inferInstance, inferInstance⟩
     ·
      replace c15 := Bool.eq_false_iff.mpr c15
      subst c15
      rw [if_neg (show ¬ (false = true) by decide)] at H
      have H' := Aside0.mk H
      clear H
      go_wp2
      go_meet
      case rel => exact ⟨_, (true), (by first | rfl | (simp; done) | (simp [*]; done)), H', ⟨by first | omega | exact Nat.le_refl _⟩, inferInstance, inferInstance⟩
    ·
     replace c14 := Bool.eq_false_iff.mpr c14
     subst c14
     rw [if_neg (show ¬ (false = true) by decide)] at H
     have H' := Aside0.mk H
     clear H
     go_wp2
     go_meet
     case rel => exact ⟨_, (true), (by first | rfl | (simp; done) | (simp [*]; done)), H', ⟨by first | omega | exact Nat.le_refl _⟩, inferInstance, inferInstance⟩
   ·
    replace c13 := Bool.eq_false_iff.mpr c13
    subst c13
    rw [if_neg (show ¬ (false = true) by decide)] at H
    have H' := Aside0.mk H
    clear H
    go_wp2
    go_meet
    case rel => exact ⟨_, (true), (by first | rfl | (simp; done) | (simp [*]; done)), H', ⟨by first | omega | exact Nat.le_refl _⟩, inferInstance, inferInstance⟩
  ·
   replace c12 := Bool.eq_false_iff.mpr c12
   subst c12
   rw [if_neg (show ¬ (false = true) by decide)] at H
   have H' := Aside0.mk H
   clear H
   go_wp2
   go_meet
   case rel => exact ⟨_, (true), (by first | rfl | (simp; done) | (simp [*]; done)), H', ⟨by first | omega | exact Nat.le_refl _⟩, inferInstance, inferInstance⟩
 case rest =>
  clear HC9
  try clear c1
  try clear c2
  try clear p2
  try clear c3
  try clear c7
  try clear c9
  try clear c12
  try clear c13
  try clear c14
  try clear c15
  try clear c16
  try clear c17
  try clear c18
  try clear c19
  try clear c19b0
  try clear c21
  try clear c21b0
  try clear c23
  try clear c23b0
  try clear c23b1
  obtain ⟨kq, x80_8, rfl, HA, HJ8, BK592, HB⟩ := hcut
  cases kq with
  | zero => exact absurd HA.out (by simp [snowlineref01_CheckSheet.j0])
  | succ kj8 =>
   have H := HA.out
   clear HA
   simp only [snowlineref01_CheckSheet.j0] at H
   by_cases c26 : x80_8 = true
   ·
    subst c26
    rw [if_pos rfl] at H
    obtain rfl := Option.some.inj H
    go_wp2
    go_ret
    exact ⟨by first | rfl | (simp [errW_none, errW_some] <;> rfl) | (simp [*, errW_none, errW_some] <;> rfl), bw w⟩
   ·
    replace c26 := Bool.eq_false_iff.mpr c26
    subst c26
    rw [if_neg (show ¬ (false = true) by decide)] at H
    have H' := Aside0.mk H
    clear H
    go_wp2
    go_loopg [10] kj8 (fun kq v10 w' => ∃ (x10_2 : Int), v10 = .int .i64 x10_2 ∧ Aside0 (snowlineref01_CheckSheet.l0 kq x10_2 a0_0 a0_1 a0_2 a0_3 a0_4 a0_5 a0_6 a0_7 l0_8 = some r) ∧ Aside0 (kq ≤ kj8) ∧ Bk w' gb592 (.cells #[.int .i64 a0_0, .int .i64 a0_1, .int .i64 a0_2, .int .i64 a0_3, .int .i64 a0_4, .int .i64 a0_5, .int .i64 a0_6, .int .i64 a0_7, (.slice A0_8 l0_8.length c0_8)] 47 (0, 0)) ∧ Bw w w')
    case atStart => exact ⟨(0), (by first | rfl | (simp; done) | (simp [*]; done)), H', ⟨Nat.le_refl _⟩, inferInstance, inferInstance⟩
    case round =>
     clear H'
     try clear c1
     try clear c2
     try clear p2
     try clear c3
     try clear c7
     try clear c9
     try clear c12
     try clear c13
     try clear c14
     try clear c15
     try clear c16
     try clear c17
     try clear c18
     try clear c19
     try clear c19b0
     try clear c21
     try clear c21b0
     try clear c23
     try clear c23b0
     try clear c23b1
     try clear c26
     try clear p2
     obtain ⟨x10_2, rfl, HA, HK2, BK592, HB⟩ := hrel
     cases gk with
     | zero => exact absurd HA.out (by simp [snowlineref01_CheckSheet.l0])
     | succ k2 =>
      have H := HA.out
      clear HA
      simp only [snowlineref01_CheckSheet.l0] at H
      by_cases c27 : x10_2 < (l0_8.length : Int)
      ·
       rw [if_pos c27] at H
       have c27b0 : decide (x10_2 < (l0_8.length : Int)) = true := decide_eq_true c27
       clear c27
       by_cases c28 : 0 ≤ x10_2
       ·
        rw [if_pos c28] at H
        have c28b0 : decide (0 ≤ x10_2) = true := decide_eq_true c28
        clear c28
        replace H := Option.bind_eq_some_iff.mp H
        obtain ⟨t601, A290, H⟩ := H
        have A29 := Aside0.mk (A290)
        clear A290
        by_cases c30 : t601 = true
        ·
         subst c30
         rw [if_pos rfl] at H
         have H' := Aside0.mk H
         clear H
         obtain ⟨hcz31_0, hcz31_1, hcz31_2, hcz31_3, hcz31_4, hcz31_5, hcz31_6, hcz31_7, hcz31_8, hfz31_0, hfz31_1, hfz31_2, hfz31_3, hfz31_4, hfz31_5, hfz31_6, hfz31_7, hfz31_8⟩ := cz9 BK592
         have p600 : 0 ≤ (x10_2 : Int) := of_decide_eq_true (by first | (with_reducible assumption) | assumption)
         have q600 : x10_2 < (l0_8.length : Int) := of_decide_eq_true (by first | (with_reducible assumption) | assumption)
         obtain ⟨ad600, e600, hx600_0, hx600_1, hx600_2, hx600_3, hx600_4⟩ := at_T71 HR0_8.out x10_2 p600 q600
         cases e600
         replace hx600_0 := cB HB hx600_0
         replace hx600_1 := cB HB hx600_1
         replace hx600_2 := cB HB hx600_2
         replace hx600_3 := cB HB hx600_3
         replace hx600_4 := cB HB hx600_4
         replace p600 := eq_true p600
         replace q600 := eq_true q600
         go_wp2_with (first | ((with_reducible refine gate_callee (f := 96) rfl ?_); refine goesLM (some 93) rfl rfl Tryd.func96 (by kernel_rfl) rfl #[.agg #[.int .i64 ((rd_T71 l0_8 x10_2).f0), .int .i64 ((rd_T71 l0_8 x10_2).f1), .int .i64 ((rd_T71 l0_8 x10_2).f2), .int .i64 ((rd_T71 l0_8 x10_2).f3), .int .i64 ((rd_T71 l0_8 x10_2).f4)]] rfl (by rfl) ?_; (with_reducible refine (snowlineref01_stake.calls ((rd_T71 l0_8 x10_2).f0) ((rd_T71 l0_8 x10_2).f1) ((rd_T71 l0_8 x10_2).f2) ((rd_T71 l0_8 x10_2).f3) ((rd_T71 l0_8 x10_2).f4) true _ A29.out).mono ?_); rintro e w32 ⟨rfl, hb⟩; refine ⟨_, rfl, ?_⟩; replace BK592 := kB gb592 hb; replace HB := bS w hb; (try clear hb)))
         go_roundg k2
         case measure => have := HJ8.out; have := HK2.out; omega
         case rel => exact ⟨(wrap64 (x10_2 + 1)), (by first | rfl | (simp; done) | (simp [*]; done)), H', ⟨by have := HJ8.out; have := HK2.out; omega⟩, inferInstance, inferInstance⟩
        ·
         replace c30 := Bool.eq_false_iff.mpr c30
         subst c30
         rw [if_neg (show ¬ (false = true) by decide)] at H
         obtain rfl := Option.some.inj H
         obtain ⟨hcz33_0, hcz33_1, hcz33_2, hcz33_3, hcz33_4, hcz33_5, hcz33_6, hcz33_7, hcz33_8, hfz33_0, hfz33_1, hfz33_2, hfz33_3, hfz33_4, hfz33_5, hfz33_6, hfz33_7, hfz33_8⟩ := cz9 BK592
         have p600 : 0 ≤ (x10_2 : Int) := of_decide_eq_true (by first | (with_reducible assumption) | assumption)
         have q600 : x10_2 < (l0_8.length : Int) := of_decide_eq_true (by first | (with_reducible assumption) | assumption)
         obtain ⟨ad600, e600, hx600_0, hx600_1, hx600_2, hx600_3, hx600_4⟩ := at_T71 HR0_8.out x10_2 p600 q600
         cases e600
         replace hx600_0 := cB HB hx600_0
         replace hx600_1 := cB HB hx600_1
         replace hx600_2 := cB HB hx600_2
         replace hx600_3 := cB HB hx600_3
         replace hx600_4 := cB HB hx600_4
         replace p600 := eq_true p600
         replace q600 := eq_true q600
         go_wp2_with (first | ((with_reducible refine gate_callee (f := 96) rfl ?_); refine goesLM (some 93) rfl rfl Tryd.func96 (by kernel_rfl) rfl #[.agg #[.int .i64 ((rd_T71 l0_8 x10_2).f0), .int .i64 ((rd_T71 l0_8 x10_2).f1), .int .i64 ((rd_T71 l0_8 x10_2).f2), .int .i64 ((rd_T71 l0_8 x10_2).f3), .int .i64 ((rd_T71 l0_8 x10_2).f4)]] rfl (by rfl) ?_; (with_reducible refine (snowlineref01_stake.calls ((rd_T71 l0_8 x10_2).f0) ((rd_T71 l0_8 x10_2).f1) ((rd_T71 l0_8 x10_2).f2) ((rd_T71 l0_8 x10_2).f3) ((rd_T71 l0_8 x10_2).f4) false _ A29.out).mono ?_); rintro e w34 ⟨rfl, hb⟩; refine ⟨_, rfl, ?_⟩; replace BK592 := kB gb592 hb; replace HB := bS w hb; (try clear hb)))
         go_ret
         exact ⟨by first | rfl | (simp [errW_none, errW_some] <;> rfl) | (simp [*, errW_none, errW_some] <;> rfl), bw w⟩
       ·
        rw [if_neg c28] at H
        exact absurd H (by simp)
      ·
       rw [if_neg c27] at H
       have c27b0 : decide (x10_2 < (l0_8.length : Int)) = false := decide_eq_false c27
       clear c27
       obtain rfl := Option.some.inj H
       obtain ⟨hcz35_0, hcz35_1, hcz35_2, hcz35_3, hcz35_4, hcz35_5, hcz35_6, hcz35_7, hcz35_8, hfz35_0, hfz35_1, hfz35_2, hfz35_3, hfz35_4, hfz35_5, hfz35_6, hfz35_7, hfz35_8⟩ := cz9 BK592
       go_wp2
       go_ret
       exact ⟨by first | rfl | (simp [errW_none, errW_some] <;> rfl) | (simp [*, errW_none, errW_some] <;> rfl), bw w⟩
def snowlineref01_weighed.f (k : Nat) (a0_0 : Int) (a0_1 : Int) (l0_2 : List (S26)) (a1_0 : Int) (a1_1 : Int) (a1_2 : Int) (a1_3 : Int) (a1_4 : Int) (a1_5 : Int) (a1_6 : Int) (a1_7 : Int) (l1_8 : List (S71)) (a2 : Int) (a3 : Int) : Option (Int) := (snowlineref01_CheckScale.f k a0_0 a0_1 l0_2).bind fun t604 => (if t604 = 0 then ((snowlineref01_CheckSheet.f k a1_0 a1_1 a1_2 a1_3 a1_4 a1_5 a1_6 a1_7 l1_8).bind fun t605 => (if t605 = 0 then ((snowlineref01_Day.f a3).bind fun t606 => (if t606 = true then (if a0_0 = a1_4 then (if a2 < 0 then (some 1) else (if a2 ≥ (l1_8.length : Int) then (some 1) else (some 0))) else (some 1)) else (some 1))) else (some t605))) else (some t604))
set_option maxHeartbeats 8000000 in
set_option maxRecDepth 100000 in
theorem snowlineref01_weighed.calls (k : Nat) (a0_0 : Int) (a0_1 : Int) (A0_2 : Option Addr) (c0_2 : Nat) (l0_2 : List (S26)) (a1_0 : Int) (a1_1 : Int) (a1_2 : Int) (a1_3 : Int) (a1_4 : Int) (a1_5 : Int) (a1_6 : Int) (a1_7 : Int) (A1_8 : Option Addr) (c1_8 : Nat) (l1_8 : List (S71)) (a2 : Int) (a3 : Int) (r : Int) (w : World) (hr0_2 : Kd.C k26 w A0_2 l0_2.length l0_2) (hc0_2 : l0_2.length ≤ c0_2) (hr1_8 : Kd.C k71 w A1_8 l1_8.length l1_8) (hc1_8 : l1_8.length ≤ c1_8) (h : snowlineref01_weighed.f k a0_0 a0_1 l0_2 a1_0 a1_1 a1_2 a1_3 a1_4 a1_5 a1_6 a1_7 l1_8 a2 a3 = some r) :
  Calls Tryd.prog 83 #[.agg #[.int .i64 a0_0, .int .i64 a0_1, .slice A0_2 l0_2.length c0_2], .agg #[.int .i64 a1_0, .int .i64 a1_1, .int .i64 a1_2, .int .i64 a1_3, .int .i64 a1_4, .int .i64 a1_5, .int .i64 a1_6, .int .i64 a1_7, .slice A1_8 l1_8.length c1_8], .int .i64 a2, .int .i64 a3] w fun e w' => e = .returned (.int .i64 r) ∧ Below w.heap.size w w' := by
 have hu24 := Tryd.underlying24
 have hu47 := Tryd.underlying47
 have HR0_2 := Aside0.mk (hr0_2)
 have HC0_2 := Aside0.mk (hc0_2)
 clear hr0_2 hc0_2
 have HR1_8 := Aside0.mk (hr1_8)
 have HC1_8 := Aside0.mk (hc1_8)
 clear hr1_8 hc1_8
 have HB := Bw.mk (Below.refl w.heap.size w)
 have H : ((snowlineref01_CheckScale.f k a0_0 a0_1 l0_2).bind fun t604 => (if t604 = 0 then ((snowlineref01_CheckSheet.f k a1_0 a1_1 a1_2 a1_3 a1_4 a1_5 a1_6 a1_7 l1_8).bind fun t605 => (if t605 = 0 then ((snowlineref01_Day.f a3).bind fun t606 => (if t606 = true then (if a0_0 = a1_4 then (if a2 < 0 then (some 1) else (if a2 ≥ (l1_8.length : Int) then (some 1) else (some 0))) else (some 1)) else (some 1))) else (some t605))) else (some t604))) = some r := h
 clear h
 replace H := Option.bind_eq_some_iff.mp H
 obtain ⟨t604, A50, H⟩ := H
 have A5 := Aside0.mk (A50)
 clear A50
 by_cases c6 : t604 = 0
 ·
  rw [if_pos c6] at H
  have c6b0 : (t604 == 0) = true := beq_iff_eq.mpr c6
  have c6b1 : (t604 != 0) = false := bne_eq_false_iff_eq.mpr c6
  clear c6
  replace H := Option.bind_eq_some_iff.mp H
  obtain ⟨t605, A70, H⟩ := H
  have A7 := Aside0.mk (A70)
  clear A70
  by_cases c8 : t605 = 0
  ·
   rw [if_pos c8] at H
   have c8b0 : (t605 == 0) = true := beq_iff_eq.mpr c8
   have c8b1 : (t605 != 0) = false := bne_eq_false_iff_eq.mpr c8
   clear c8
   replace H := Option.bind_eq_some_iff.mp H
   obtain ⟨t606, A90, H⟩ := H
   have A9 := Aside0.mk (A90)
   clear A90
   by_cases c10 : t606 = true
   ·
    subst c10
    rw [if_pos rfl] at H
    by_cases c11 : a0_0 = a1_4
    ·
     rw [if_pos c11] at H
     have c11b0 : (a0_0 == a1_4) = true := beq_iff_eq.mpr c11
     have c11b1 : (a0_0 != a1_4) = false := bne_eq_false_iff_eq.mpr c11
     clear c11
     by_cases c12 : a2 < 0
     ·
      rw [if_pos c12] at H
      have c12b0 : decide (a2 < 0) = true := decide_eq_true c12
      clear c12
      obtain rfl := Option.some.inj H
      go_enter Tryd.func83, Tryd.ntmps83
      go_wp2_with (first | ((with_reducible refine gate_dst (N := 4) rfl ?_); (try (refine gate_guard (by rfl) ?_; dsimp only)); refine bxE 4 24 #[.int .i64 a0_0, .int .i64 a0_1, .slice A0_2 l0_2.length c0_2] (by rfl) (by rfl) (by first | (go_simp; done) | (go_simp; rfl)) ?_; intro gb602 hg w13 hbox hb; have BK602 := Bk.mk (hbox); have GE602 := eB w hg; replace HB := bS w hb; clear hb hbox hg) | ((with_reducible refine gate_dst (N := 5) rfl ?_); (try (refine gate_guard (by rfl) ?_; dsimp only)); refine bxE 5 47 #[.int .i64 a1_0, .int .i64 a1_1, .int .i64 a1_2, .int .i64 a1_3, .int .i64 a1_4, .int .i64 a1_5, .int .i64 a1_6, .int .i64 a1_7, .slice A1_8 l1_8.length c1_8] (by rfl) (by rfl) (by first | (go_simp; done) | (go_simp; rfl)) ?_; intro gb603 hg w14 hbox hb; have BK603 := Bk.mk (hbox); have GE603 := eB w hg; replace BK602 := kB gb602 hb; replace HB := bS w hb; clear hb hbox hg; obtain ⟨hcz16_0, hcz16_1, hcz16_2, hfz16_0, hfz16_1, hfz16_2⟩ := cz3 BK602) | ((with_reducible refine gate_callee (f := 21) rfl ?_); refine goesLM (some 12) rfl rfl Tryd.func21 (by kernel_rfl) rfl #[.agg #[.int .i64 a0_0, .int .i64 a0_1, .slice A0_2 l0_2.length c0_2]] rfl (by rfl) ?_; (with_reducible refine (snowlineref01_CheckScale.calls k a0_0 a0_1 _ _ l0_2 t604 _ ?side1 ?side2 A5.out).mono ?_); (case side1 => exact cP (Kd.C_below HR0_2.out HB.out)); (case side2 => exact HC0_2.out); rintro e w17 ⟨rfl, hb⟩; refine ⟨_, rfl, ?_⟩; replace BK602 := kB gb602 hb; replace BK603 := kB gb603 hb; replace HB := bS w hb; (try clear hb); obtain ⟨hcz18_0, hcz18_1, hcz18_2, hcz18_3, hcz18_4, hcz18_5, hcz18_6, hcz18_7, hcz18_8, hfz18_0, hfz18_1, hfz18_2, hfz18_3, hfz18_4, hfz18_5, hfz18_6, hfz18_7, hfz18_8⟩ := cz9 BK603) | ((with_reducible refine gate_callee (f := 32) rfl ?_); refine goesLM (some 17) rfl rfl Tryd.func32 (by kernel_rfl) rfl #[.agg #[.int .i64 a1_0, .int .i64 a1_1, .int .i64 a1_2, .int .i64 a1_3, .int .i64 a1_4, .int .i64 a1_5, .int .i64 a1_6, .int .i64 a1_7, .slice A1_8 l1_8.length c1_8]] rfl (by rfl) ?_; (with_reducible refine (snowlineref01_CheckSheet.calls k a1_0 a1_1 a1_2 a1_3 a1_4 a1_5 a1_6 a1_7 _ _ l1_8 t605 _ ?side1 ?side2 A7.out).mono ?_); (case side1 => exact cP (Kd.C_below HR1_8.out HB.out)); (case side2 => exact HC1_8.out); rintro e w19 ⟨rfl, hb⟩; refine ⟨_, rfl, ?_⟩; replace BK602 := kB gb602 hb; replace BK603 := kB gb603 hb; replace HB := bS w hb; (try clear hb)) | ((with_reducible refine gate_callee (f := 75) rfl ?_); refine goesLM (some 22) rfl rfl Tryd.func75 (by kernel_rfl) rfl #[.int .i64 a3] rfl (by rfl) ?_; (with_reducible refine (snowlineref01_Day.calls a3 true _ A9.out).mono ?_); rintro e w' ⟨rfl, ⟨nd, rfl⟩⟩; refine ⟨_, rfl, ?_⟩; obtain ⟨hcz20_0, hcz20_1, hcz20_2, hfz20_0, hfz20_1, hfz20_2⟩ := cz3 BK602; obtain ⟨hcz21_0, hcz21_1, hcz21_2, hcz21_3, hcz21_4, hcz21_5, hcz21_6, hcz21_7, hcz21_8, hfz21_0, hfz21_1, hfz21_2, hfz21_3, hfz21_4, hfz21_5, hfz21_6, hfz21_7, hfz21_8⟩ := cz9 BK603))
      go_ret
      exact ⟨by first | rfl | (simp [errW_none, errW_some] <;> rfl) | (simp [*, errW_none, errW_some] <;> rfl), bw w⟩
     ·
      rw [if_neg c12] at H
      have c12b0 : decide (a2 < 0) = false := decide_eq_false c12
      clear c12
      by_cases c22 : a2 ≥ (l1_8.length : Int)
      ·
       rw [if_pos c22] at H
       have c22b0 : decide ((l1_8.length : Int) ≤ a2) = true := decide_eq_true c22
       clear c22
       obtain rfl := Option.some.inj H
       go_enter Tryd.func83, Tryd.ntmps83
       go_wp2_with (first | ((with_reducible refine gate_dst (N := 4) rfl ?_); (try (refine gate_guard (by rfl) ?_; dsimp only)); refine bxE 4 24 #[.int .i64 a0_0, .int .i64 a0_1, .slice A0_2 l0_2.length c0_2] (by rfl) (by rfl) (by first | (go_simp; done) | (go_simp; rfl)) ?_; intro gb602 hg w23 hbox hb; have BK602 := Bk.mk (hbox); have GE602 := eB w hg; replace HB := bS w hb; clear hb hbox hg) | ((with_reducible refine gate_dst (N := 5) rfl ?_); (try (refine gate_guard (by rfl) ?_; dsimp only)); refine bxE 5 47 #[.int .i64 a1_0, .int .i64 a1_1, .int .i64 a1_2, .int .i64 a1_3, .int .i64 a1_4, .int .i64 a1_5, .int .i64 a1_6, .int .i64 a1_7, .slice A1_8 l1_8.length c1_8] (by rfl) (by rfl) (by first | (go_simp; done) | (go_simp; rfl)) ?_; intro gb603 hg w24 hbox hb; have BK603 := Bk.mk (hbox); have GE603 := eB w hg; replace BK602 := kB gb602 hb; replace HB := bS w hb; clear hb hbox hg; obtain ⟨hcz26_0, hcz26_1, hcz26_2, hfz26_0, hfz26_1, hfz26_2⟩ := cz3 BK602) | ((with_reducible refine gate_callee (f := 21) rfl ?_); refine goesLM (some 12) rfl rfl Tryd.func21 (by kernel_rfl) rfl #[.agg #[.int .i64 a0_0, .int .i64 a0_1, .slice A0_2 l0_2.length c0_2]] rfl (by rfl) ?_; (with_reducible refine (snowlineref01_CheckScale.calls k a0_0 a0_1 _ _ l0_2 t604 _ ?side1 ?side2 A5.out).mono ?_); (case side1 => exact cP (Kd.C_below HR0_2.out HB.out)); (case side2 => exact HC0_2.out); rintro e w27 ⟨rfl, hb⟩; refine ⟨_, rfl, ?_⟩; replace BK602 := kB gb602 hb; replace BK603 := kB gb603 hb; replace HB := bS w hb; (try clear hb); obtain ⟨hcz28_0, hcz28_1, hcz28_2, hcz28_3, hcz28_4, hcz28_5, hcz28_6, hcz28_7, hcz28_8, hfz28_0, hfz28_1, hfz28_2, hfz28_3, hfz28_4, hfz28_5, hfz28_6, hfz28_7, hfz28_8⟩ := cz9 BK603) | ((with_reducible refine gate_callee (f := 32) rfl ?_); refine goesLM (some 17) rfl rfl Tryd.func32 (by kernel_rfl) rfl #[.agg #[.int .i64 a1_0, .int .i64 a1_1, .int .i64 a1_2, .int .i64 a1_3, .int .i64 a1_4, .int .i64 a1_5, .int .i64 a1_6, .int .i64 a1_7, .slice A1_8 l1_8.length c1_8]] rfl (by rfl) ?_; (with_reducible refine (snowlineref01_CheckSheet.calls k a1_0 a1_1 a1_2 a1_3 a1_4 a1_5 a1_6 a1_7 _ _ l1_8 t605 _ ?side1 ?side2 A7.out).mono ?_); (case side1 => exact cP (Kd.C_below HR1_8.out HB.out)); (case side2 => exact HC1_8.out); rintro e w29 ⟨rfl, hb⟩; refine ⟨_, rfl, ?_⟩; replace BK602 := kB gb602 hb; replace BK603 := kB gb603 hb; replace HB := bS w hb; (try clear hb)) | ((with_reducible refine gate_callee (f := 75) rfl ?_); refine goesLM (some 22) rfl rfl Tryd.func75 (by kernel_rfl) rfl #[.int .i64 a3] rfl (by rfl) ?_; (with_reducible refine (snowlineref01_Day.calls a3 true _ A9.out).mono ?_); rintro e w' ⟨rfl, ⟨nd, rfl⟩⟩; refine ⟨_, rfl, ?_⟩; obtain ⟨hcz30_0, hcz30_1, hcz30_2, hfz30_0, hfz30_1, hfz30_2⟩ := cz3 BK602; obtain ⟨hcz31_0, hcz31_1, hcz31_2, hcz31_3, hcz31_4, hcz31_5, hcz31_6, hcz31_7, hcz31_8, hfz31_0, hfz31_1, hfz31_2, hfz31_3, hfz31_4, hfz31_5, hfz31_6, hfz31_7, hfz31_8⟩ := cz9 BK603))
       go_ret
       exact ⟨by first | rfl | (simp [errW_none, errW_some] <;> rfl) | (simp [*, errW_none, errW_some] <;> rfl), bw w⟩
      ·
       rw [if_neg c22] at H
       have c22b0 : decide ((l1_8.length : Int) ≤ a2) = false := decide_eq_false c22
       clear c22
       obtain rfl := Option.some.inj H
       go_enter Tryd.func83, Tryd.ntmps83
       go_wp2_with (first | ((with_reducible refine gate_dst (N := 4) rfl ?_); (try (refine gate_guard (by rfl) ?_; dsimp only)); refine bxE 4 24 #[.int .i64 a0_0, .int .i64 a0_1, .slice A0_2 l0_2.length c0_2] (by rfl) (by rfl) (by first | (go_simp; done) | (go_simp; rfl)) ?_; intro gb602 hg w32 hbox hb; have BK602 := Bk.mk (hbox); have GE602 := eB w hg; replace HB := bS w hb; clear hb hbox hg) | ((with_reducible refine gate_dst (N := 5) rfl ?_); (try (refine gate_guard (by rfl) ?_; dsimp only)); refine bxE 5 47 #[.int .i64 a1_0, .int .i64 a1_1, .int .i64 a1_2, .int .i64 a1_3, .int .i64 a1_4, .int .i64 a1_5, .int .i64 a1_6, .int .i64 a1_7, .slice A1_8 l1_8.length c1_8] (by rfl) (by rfl) (by first | (go_simp; done) | (go_simp; rfl)) ?_; intro gb603 hg w33 hbox hb; have BK603 := Bk.mk (hbox); have GE603 := eB w hg; replace BK602 := kB gb602 hb; replace HB := bS w hb; clear hb hbox hg; obtain ⟨hcz35_0, hcz35_1, hcz35_2, hfz35_0, hfz35_1, hfz35_2⟩ := cz3 BK602) | ((with_reducible refine gate_callee (f := 21) rfl ?_); refine goesLM (some 12) rfl rfl Tryd.func21 (by kernel_rfl) rfl #[.agg #[.int .i64 a0_0, .int .i64 a0_1, .slice A0_2 l0_2.length c0_2]] rfl (by rfl) ?_; (with_reducible refine (snowlineref01_CheckScale.calls k a0_0 a0_1 _ _ l0_2 t604 _ ?side1 ?side2 A5.out).mono ?_); (case side1 => exact cP (Kd.C_below HR0_2.out HB.out)); (case side2 => exact HC0_2.out); rintro e w36 ⟨rfl, hb⟩; refine ⟨_, rfl, ?_⟩; replace BK602 := kB gb602 hb; replace BK603 := kB gb603 hb; replace HB := bS w hb; (try clear hb); obtain ⟨hcz37_0, hcz37_1, hcz37_2, hcz37_3, hcz37_4, hcz37_5, hcz37_6, hcz37_7, hcz37_8, hfz37_0, hfz37_1, hfz37_2, hfz37_3, hfz37_4, hfz37_5, hfz37_6, hfz37_7, hfz37_8⟩ := cz9 BK603) | ((with_reducible refine gate_callee (f := 32) rfl ?_); refine goesLM (some 17) rfl rfl Tryd.func32 (by kernel_rfl) rfl #[.agg #[.int .i64 a1_0, .int .i64 a1_1, .int .i64 a1_2, .int .i64 a1_3, .int .i64 a1_4, .int .i64 a1_5, .int .i64 a1_6, .int .i64 a1_7, .slice A1_8 l1_8.length c1_8]] rfl (by rfl) ?_; (with_reducible refine (snowlineref01_CheckSheet.calls k a1_0 a1_1 a1_2 a1_3 a1_4 a1_5 a1_6 a1_7 _ _ l1_8 t605 _ ?side1 ?side2 A7.out).mono ?_); (case side1 => exact cP (Kd.C_below HR1_8.out HB.out)); (case side2 => exact HC1_8.out); rintro e w38 ⟨rfl, hb⟩; refine ⟨_, rfl, ?_⟩; replace BK602 := kB gb602 hb; replace BK603 := kB gb603 hb; replace HB := bS w hb; (try clear hb)) | ((with_reducible refine gate_callee (f := 75) rfl ?_); refine goesLM (some 22) rfl rfl Tryd.func75 (by kernel_rfl) rfl #[.int .i64 a3] rfl (by rfl) ?_; (with_reducible refine (snowlineref01_Day.calls a3 true _ A9.out).mono ?_); rintro e w' ⟨rfl, ⟨nd, rfl⟩⟩; refine ⟨_, rfl, ?_⟩; obtain ⟨hcz39_0, hcz39_1, hcz39_2, hfz39_0, hfz39_1, hfz39_2⟩ := cz3 BK602; obtain ⟨hcz40_0, hcz40_1, hcz40_2, hcz40_3, hcz40_4, hcz40_5, hcz40_6, hcz40_7, hcz40_8, hfz40_0, hfz40_1, hfz40_2, hfz40_3, hfz40_4, hfz40_5, hfz40_6, hfz40_7, hfz40_8⟩ := cz9 BK603))
       go_ret
       exact ⟨by first | rfl | (simp [errW_none, errW_some] <;> rfl) | (simp [*, errW_none, errW_some] <;> rfl), bw w⟩
    ·
     rw [if_neg c11] at H
     have c11b0 : (a0_0 == a1_4) = false := beq_eq_false_iff_ne.mpr c11
     have c11b1 : (a0_0 != a1_4) = true := bne_iff_ne.mpr c11
     obtain rfl := Option.some.inj H
     go_enter Tryd.func83, Tryd.ntmps83
     go_wp2_with (first | ((with_reducible refine gate_dst (N := 4) rfl ?_); (try (refine gate_guard (by rfl) ?_; dsimp only)); refine bxE 4 24 #[.int .i64 a0_0, .int .i64 a0_1, .slice A0_2 l0_2.length c0_2] (by rfl) (by rfl) (by first | (go_simp; done) | (go_simp; rfl)) ?_; intro gb602 hg w41 hbox hb; have BK602 := Bk.mk (hbox); have GE602 := eB w hg; replace HB := bS w hb; clear hb hbox hg) | ((with_reducible refine gate_dst (N := 5) rfl ?_); (try (refine gate_guard (by rfl) ?_; dsimp only)); refine bxE 5 47 #[.int .i64 a1_0, .int .i64 a1_1, .int .i64 a1_2, .int .i64 a1_3, .int .i64 a1_4, .int .i64 a1_5, .int .i64 a1_6, .int .i64 a1_7, .slice A1_8 l1_8.length c1_8] (by rfl) (by rfl) (by first | (go_simp; done) | (go_simp; rfl)) ?_; intro gb603 hg w42 hbox hb; have BK603 := Bk.mk (hbox); have GE603 := eB w hg; replace BK602 := kB gb602 hb; replace HB := bS w hb; clear hb hbox hg; obtain ⟨hcz44_0, hcz44_1, hcz44_2, hfz44_0, hfz44_1, hfz44_2⟩ := cz3 BK602) | ((with_reducible refine gate_callee (f := 21) rfl ?_); refine goesLM (some 12) rfl rfl Tryd.func21 (by kernel_rfl) rfl #[.agg #[.int .i64 a0_0, .int .i64 a0_1, .slice A0_2 l0_2.length c0_2]] rfl (by rfl) ?_; (with_reducible refine (snowlineref01_CheckScale.calls k a0_0 a0_1 _ _ l0_2 t604 _ ?side1 ?side2 A5.out).mono ?_); (case side1 => exact cP (Kd.C_below HR0_2.out HB.out)); (case side2 => exact HC0_2.out); rintro e w45 ⟨rfl, hb⟩; refine ⟨_, rfl, ?_⟩; replace BK602 := kB gb602 hb; replace BK603 := kB gb603 hb; replace HB := bS w hb; (try clear hb); obtain ⟨hcz46_0, hcz46_1, hcz46_2, hcz46_3, hcz46_4, hcz46_5, hcz46_6, hcz46_7, hcz46_8, hfz46_0, hfz46_1, hfz46_2, hfz46_3, hfz46_4, hfz46_5, hfz46_6, hfz46_7, hfz46_8⟩ := cz9 BK603) | ((with_reducible refine gate_callee (f := 32) rfl ?_); refine goesLM (some 17) rfl rfl Tryd.func32 (by kernel_rfl) rfl #[.agg #[.int .i64 a1_0, .int .i64 a1_1, .int .i64 a1_2, .int .i64 a1_3, .int .i64 a1_4, .int .i64 a1_5, .int .i64 a1_6, .int .i64 a1_7, .slice A1_8 l1_8.length c1_8]] rfl (by rfl) ?_; (with_reducible refine (snowlineref01_CheckSheet.calls k a1_0 a1_1 a1_2 a1_3 a1_4 a1_5 a1_6 a1_7 _ _ l1_8 t605 _ ?side1 ?side2 A7.out).mono ?_); (case side1 => exact cP (Kd.C_below HR1_8.out HB.out)); (case side2 => exact HC1_8.out); rintro e w47 ⟨rfl, hb⟩; refine ⟨_, rfl, ?_⟩; replace BK602 := kB gb602 hb; replace BK603 := kB gb603 hb; replace HB := bS w hb; (try clear hb)) | ((with_reducible refine gate_callee (f := 75) rfl ?_); refine goesLM (some 22) rfl rfl Tryd.func75 (by kernel_rfl) rfl #[.int .i64 a3] rfl (by rfl) ?_; (with_reducible refine (snowlineref01_Day.calls a3 true _ A9.out).mono ?_); rintro e w' ⟨rfl, ⟨nd, rfl⟩⟩; refine ⟨_, rfl, ?_⟩; obtain ⟨hcz48_0, hcz48_1, hcz48_2, hfz48_0, hfz48_1, hfz48_2⟩ := cz3 BK602; obtain ⟨hcz49_0, hcz49_1, hcz49_2, hcz49_3, hcz49_4, hcz49_5, hcz49_6, hcz49_7, hcz49_8, hfz49_0, hfz49_1, hfz49_2, hfz49_3, hfz49_4, hfz49_5, hfz49_6, hfz49_7, hfz49_8⟩ := cz9 BK603))
     go_ret
     exact ⟨by first | rfl | (simp [errW_none, errW_some] <;> rfl) | (simp [*, errW_none, errW_some] <;> rfl), bw w⟩
   ·
    replace c10 := Bool.eq_false_iff.mpr c10
    subst c10
    rw [if_neg (show ¬ (false = true) by decide)] at H
    obtain rfl := Option.some.inj H
    go_enter Tryd.func83, Tryd.ntmps83
    go_wp2_with (first | ((with_reducible refine gate_dst (N := 4) rfl ?_); (try (refine gate_guard (by rfl) ?_; dsimp only)); refine bxE 4 24 #[.int .i64 a0_0, .int .i64 a0_1, .slice A0_2 l0_2.length c0_2] (by rfl) (by rfl) (by first | (go_simp; done) | (go_simp; rfl)) ?_; intro gb602 hg w50 hbox hb; have BK602 := Bk.mk (hbox); have GE602 := eB w hg; replace HB := bS w hb; clear hb hbox hg) | ((with_reducible refine gate_dst (N := 5) rfl ?_); (try (refine gate_guard (by rfl) ?_; dsimp only)); refine bxE 5 47 #[.int .i64 a1_0, .int .i64 a1_1, .int .i64 a1_2, .int .i64 a1_3, .int .i64 a1_4, .int .i64 a1_5, .int .i64 a1_6, .int .i64 a1_7, .slice A1_8 l1_8.length c1_8] (by rfl) (by rfl) (by first | (go_simp; done) | (go_simp; rfl)) ?_; intro gb603 hg w51 hbox hb; have BK603 := Bk.mk (hbox); have GE603 := eB w hg; replace BK602 := kB gb602 hb; replace HB := bS w hb; clear hb hbox hg; obtain ⟨hcz53_0, hcz53_1, hcz53_2, hfz53_0, hfz53_1, hfz53_2⟩ := cz3 BK602) | ((with_reducible refine gate_callee (f := 21) rfl ?_); refine goesLM (some 12) rfl rfl Tryd.func21 (by kernel_rfl) rfl #[.agg #[.int .i64 a0_0, .int .i64 a0_1, .slice A0_2 l0_2.length c0_2]] rfl (by rfl) ?_; (with_reducible refine (snowlineref01_CheckScale.calls k a0_0 a0_1 _ _ l0_2 t604 _ ?side1 ?side2 A5.out).mono ?_); (case side1 => exact cP (Kd.C_below HR0_2.out HB.out)); (case side2 => exact HC0_2.out); rintro e w54 ⟨rfl, hb⟩; refine ⟨_, rfl, ?_⟩; replace BK602 := kB gb602 hb; replace BK603 := kB gb603 hb; replace HB := bS w hb; (try clear hb); obtain ⟨hcz55_0, hcz55_1, hcz55_2, hcz55_3, hcz55_4, hcz55_5, hcz55_6, hcz55_7, hcz55_8, hfz55_0, hfz55_1, hfz55_2, hfz55_3, hfz55_4, hfz55_5, hfz55_6, hfz55_7, hfz55_8⟩ := cz9 BK603) | ((with_reducible refine gate_callee (f := 32) rfl ?_); refine goesLM (some 17) rfl rfl Tryd.func32 (by kernel_rfl) rfl #[.agg #[.int .i64 a1_0, .int .i64 a1_1, .int .i64 a1_2, .int .i64 a1_3, .int .i64 a1_4, .int .i64 a1_5, .int .i64 a1_6, .int .i64 a1_7, .slice A1_8 l1_8.length c1_8]] rfl (by rfl) ?_; (with_reducible refine (snowlineref01_CheckSheet.calls k a1_0 a1_1 a1_2 a1_3 a1_4 a1_5 a1_6 a1_7 _ _ l1_8 t605 _ ?side1 ?side2 A7.out).mono ?_); (case side1 => exact cP (Kd.C_below HR1_8.out HB.out)); (case side2 => exact HC1_8.out); rintro e w56 ⟨rfl, hb⟩; refine ⟨_, rfl, ?_⟩; replace BK602 := kB gb602 hb; replace BK603 := kB gb603 hb; replace HB := bS w hb; (try clear hb)) | ((with_reducible refine gate_callee (f := 75) rfl ?_); refine goesLM (some 22) rfl rfl Tryd.func75 (by kernel_rfl) rfl #[.int .i64 a3] rfl (by rfl) ?_; (with_reducible refine (snowlineref01_Day.calls a3 false _ A9.out).mono ?_); rintro e w' ⟨rfl, ⟨nd, rfl⟩⟩; refine ⟨_, rfl, ?_⟩))
    go_ret
    exact ⟨by first | rfl | (simp [errW_none, errW_some] <;> rfl) | (simp [*, errW_none, errW_some] <;> rfl), bw w⟩
  ·
   rw [if_neg c8] at H
   have c8b0 : (t605 == 0) = false := beq_eq_false_iff_ne.mpr c8
   have c8b1 : (t605 != 0) = true := bne_iff_ne.mpr c8
   obtain rfl := Option.some.inj H
   go_enter Tryd.func83, Tryd.ntmps83
   go_wp2_with (first | ((with_reducible refine gate_dst (N := 4) rfl ?_); (try (refine gate_guard (by rfl) ?_; dsimp only)); refine bxE 4 24 #[.int .i64 a0_0, .int .i64 a0_1, .slice A0_2 l0_2.length c0_2] (by rfl) (by rfl) (by first | (go_simp; done) | (go_simp; rfl)) ?_; intro gb602 hg w57 hbox hb; have BK602 := Bk.mk (hbox); have GE602 := eB w hg; replace HB := bS w hb; clear hb hbox hg) | ((with_reducible refine gate_dst (N := 5) rfl ?_); (try (refine gate_guard (by rfl) ?_; dsimp only)); refine bxE 5 47 #[.int .i64 a1_0, .int .i64 a1_1, .int .i64 a1_2, .int .i64 a1_3, .int .i64 a1_4, .int .i64 a1_5, .int .i64 a1_6, .int .i64 a1_7, .slice A1_8 l1_8.length c1_8] (by rfl) (by rfl) (by first | (go_simp; done) | (go_simp; rfl)) ?_; intro gb603 hg w58 hbox hb; have BK603 := Bk.mk (hbox); have GE603 := eB w hg; replace BK602 := kB gb602 hb; replace HB := bS w hb; clear hb hbox hg; obtain ⟨hcz60_0, hcz60_1, hcz60_2, hfz60_0, hfz60_1, hfz60_2⟩ := cz3 BK602) | ((with_reducible refine gate_callee (f := 21) rfl ?_); refine goesLM (some 12) rfl rfl Tryd.func21 (by kernel_rfl) rfl #[.agg #[.int .i64 a0_0, .int .i64 a0_1, .slice A0_2 l0_2.length c0_2]] rfl (by rfl) ?_; (with_reducible refine (snowlineref01_CheckScale.calls k a0_0 a0_1 _ _ l0_2 t604 _ ?side1 ?side2 A5.out).mono ?_); (case side1 => exact cP (Kd.C_below HR0_2.out HB.out)); (case side2 => exact HC0_2.out); rintro e w61 ⟨rfl, hb⟩; refine ⟨_, rfl, ?_⟩; replace BK602 := kB gb602 hb; replace BK603 := kB gb603 hb; replace HB := bS w hb; (try clear hb); obtain ⟨hcz62_0, hcz62_1, hcz62_2, hcz62_3, hcz62_4, hcz62_5, hcz62_6, hcz62_7, hcz62_8, hfz62_0, hfz62_1, hfz62_2, hfz62_3, hfz62_4, hfz62_5, hfz62_6, hfz62_7, hfz62_8⟩ := cz9 BK603) | ((with_reducible refine gate_callee (f := 32) rfl ?_); refine goesLM (some 17) rfl rfl Tryd.func32 (by kernel_rfl) rfl #[.agg #[.int .i64 a1_0, .int .i64 a1_1, .int .i64 a1_2, .int .i64 a1_3, .int .i64 a1_4, .int .i64 a1_5, .int .i64 a1_6, .int .i64 a1_7, .slice A1_8 l1_8.length c1_8]] rfl (by rfl) ?_; (with_reducible refine (snowlineref01_CheckSheet.calls k a1_0 a1_1 a1_2 a1_3 a1_4 a1_5 a1_6 a1_7 _ _ l1_8 t605 _ ?side1 ?side2 A7.out).mono ?_); (case side1 => exact cP (Kd.C_below HR1_8.out HB.out)); (case side2 => exact HC1_8.out); rintro e w63 ⟨rfl, hb⟩; refine ⟨_, rfl, ?_⟩; replace BK602 := kB gb602 hb; replace BK603 := kB gb603 hb; replace HB := bS w hb; (try clear hb)))
   go_ret
   exact ⟨by first | rfl | (simp [errW_none, errW_some] <;> rfl) | (simp [*, errW_none, errW_some] <;> rfl), bw w⟩
 ·
  rw [if_neg c6] at H
  have c6b0 : (t604 == 0) = false := beq_eq_false_iff_ne.mpr c6
  have c6b1 : (t604 != 0) = true := bne_iff_ne.mpr c6
  obtain rfl := Option.some.inj H
  go_enter Tryd.func83, Tryd.ntmps83
  go_wp2_with (first | ((with_reducible refine gate_dst (N := 4) rfl ?_); (try (refine gate_guard (by rfl) ?_; dsimp only)); refine bxE 4 24 #[.int .i64 a0_0, .int .i64 a0_1, .slice A0_2 l0_2.length c0_2] (by rfl) (by rfl) (by first | (go_simp; done) | (go_simp; rfl)) ?_; intro gb602 hg w64 hbox hb; have BK602 := Bk.mk (hbox); have GE602 := eB w hg; replace HB := bS w hb; clear hb hbox hg) | ((with_reducible refine gate_dst (N := 5) rfl ?_); (try (refine gate_guard (by rfl) ?_; dsimp only)); refine bxE 5 47 #[.int .i64 a1_0, .int .i64 a1_1, .int .i64 a1_2, .int .i64 a1_3, .int .i64 a1_4, .int .i64 a1_5, .int .i64 a1_6, .int .i64 a1_7, .slice A1_8 l1_8.length c1_8] (by rfl) (by rfl) (by first | (go_simp; done) | (go_simp; rfl)) ?_; intro gb603 hg w65 hbox hb; have BK603 := Bk.mk (hbox); have GE603 := eB w hg; replace BK602 := kB gb602 hb; replace HB := bS w hb; clear hb hbox hg; obtain ⟨hcz67_0, hcz67_1, hcz67_2, hfz67_0, hfz67_1, hfz67_2⟩ := cz3 BK602) | ((with_reducible refine gate_callee (f := 21) rfl ?_); refine goesLM (some 12) rfl rfl Tryd.func21 (by kernel_rfl) rfl #[.agg #[.int .i64 a0_0, .int .i64 a0_1, .slice A0_2 l0_2.length c0_2]] rfl (by rfl) ?_; (with_reducible refine (snowlineref01_CheckScale.calls k a0_0 a0_1 _ _ l0_2 t604 _ ?side1 ?side2 A5.out).mono ?_); (case side1 => exact cP (Kd.C_below HR0_2.out HB.out)); (case side2 => exact HC0_2.out); rintro e w68 ⟨rfl, hb⟩; refine ⟨_, rfl, ?_⟩; replace BK602 := kB gb602 hb; replace BK603 := kB gb603 hb; replace HB := bS w hb; (try clear hb)))
  go_ret
  exact ⟨by first | rfl | (simp [errW_none, errW_some] <;> rfl) | (simp [*, errW_none, errW_some] <;> rfl), bw w⟩
def snowlineref01_turns.l0 : Nat → Int → Int → Int → Int → Int → Int → Int → Int → Int → List (S71) → Int → Int → Option (Int × Int × Bool)
 | 0, _, _, _, _, _, _, _, _, _, _, _, _ => none
 | k + 1, x9, x609000, x609001, x609002, x609003, x609004, x609005, x609006, x609007, x609008, x613000, x613001 => if x9 < (x609008.length : Int) then (if 0 ≤ x9 then (snowlineref01_turns.l0 k (wrap64 (x9 + 1)) x609000 x609001 x609002 x609003 x609004 x609005 x609006 x609007 x609008 x613000 (mn x613001 (wrap64 (((rd_T71 x609008 x9).f2) - x609006)))) else (none)) else (some (x613000, x613001, decide (x613000 ≤ x613001)))
def snowlineref01_turns.f (k : Nat) (a0_0 : Int) (a0_1 : Int) (l0_2 : List (S26)) (a1_0 : Int) (a1_1 : Int) (a1_2 : Int) (a1_3 : Int) (a1_4 : Int) (a1_5 : Int) (a1_6 : Int) (a1_7 : Int) (l1_8 : List (S71)) (a2 : Int) : Option (Int × Int × Bool) := (snowlineref01_turn.f k a0_0 a0_1 l0_2 a1_7 a1_2 a2).bind fun bt610 => (snowlineref01_turns.l0 k 0 a1_0 a1_1 a1_2 a1_3 a1_4 a1_5 a1_6 a1_7 l1_8 bt610.1 bt610.2)
def snowlineref01_turns.T5 : Bool × List (List Nat × List Nat) := (true, [([], []), ([0], [0]), ([], []), ([2], [2]), ([], []), ([3, 4], [3, 4]), ([5], [5]), ([6], [6]), ([], []), ([8], [8]), ([7, 9], [7, 9]), ([1, 10], [1, 10]), ([0, 1, 2, 3, 4, 5, 6, 7, 8, 9, 10, 11], []), ([12, 11, 0, 1, 2, 3, 4, 5, 6, 7, 8, 9, 10, 11], [11, 12])])
def snowlineref01_turns.B5 : List Nat := [0, 1, 0, 4, 0, 28, 60, 124, 0, 256, 1020, 2047, 4095, 8191]
theorem snowlineref01_turns.tab5 : rtab .any (opsOf Tryd.f84 5) = snowlineref01_turns.T5 := by kernel_rfl
theorem snowlineref01_turns.bits5 : waitsOk snowlineref01_turns.T5.2 snowlineref01_turns.B5 = true := by kernel_rfl
def snowlineref01_turns.T6 : Bool × List (List Nat × List Nat) := (true, [([], []), ([], []), ([1], [1]), ([], []), ([3], [3]), ([2, 4], [2, 4]), ([0, 0], [0]), ([5, 6, 0, 1, 2, 3, 4, 5, 6], [5])])
def snowlineref01_turns.B6 : List Nat := [0, 0, 2, 0, 8, 30, 1, 127]
theorem snowlineref01_turns.tab6 : rtab .any (opsOf Tryd.f84 6) = snowlineref01_turns.T6 := by kernel_rfl
theorem snowlineref01_turns.bits6 : waitsOk snowlineref01_turns.T6.2 snowlineref01_turns.B6 = true := by kernel_rfl
set_option maxHeartbeats 8000000 in
set_option maxRecDepth 100000 in
theorem snowlineref01_turns.calls (k : Nat) (a0_0 : Int) (a0_1 : Int) (A0_2 : Option Addr) (c0_2 : Nat) (l0_2 : List (S26)) (a1_0 : Int) (a1_1 : Int) (a1_2 : Int) (a1_3 : Int) (a1_4 : Int) (a1_5 : Int) (a1_6 : Int) (a1_7 : Int) (A1_8 : Option Addr) (c1_8 : Nat) (l1_8 : List (S71)) (a2 : Int) (r1 : Int) (r2 : Int) (r3 : Bool) (w : World) (hr0_2 : Kd.C k26 w A0_2 l0_2.length l0_2) (hc0_2 : l0_2.length ≤ c0_2) (hr1_8 : Kd.C k71 w A1_8 l1_8.length l1_8) (hc1_8 : l1_8.length ≤ c1_8) (h : snowlineref01_turns.f k a0_0 a0_1 l0_2 a1_0 a1_1 a1_2 a1_3 a1_4 a1_5 a1_6 a1_7 l1_8 a2 = some (r1, r2, r3)) :
  Calls Tryd.prog 84 #[.agg #[.int .i64 a0_0, .int .i64 a0_1, .slice A0_2 l0_2.length c0_2], .agg #[.int .i64 a1_0, .int .i64 a1_1, .int .i64 a1_2, .int .i64 a1_3, .int .i64 a1_4, .int .i64 a1_5, .int .i64 a1_6, .int .i64 a1_7, .slice A1_8 l1_8.length c1_8], .int .i64 a2] w fun e w' => e = .returned (.tuple #[.agg #[.int .i64 r1, .int .i64 r2], .bool r3]) ∧ Below w.heap.size w w' := by
 have hu24 := Tryd.underlying24
 have hu47 := Tryd.underlying47
 have hu40 := Tryd.underlying40
 have HR0_2 := Aside0.mk (hr0_2)
 have HC0_2 := Aside0.mk (hc0_2)
 clear hr0_2 hc0_2
 have HR1_8 := Aside0.mk (hr1_8)
 have HC1_8 := Aside0.mk (hc1_8)
 clear hr1_8 hc1_8
 have HB := Bw.mk (Below.refl w.heap.size w)
 have H : ((snowlineref01_turn.f k a0_0 a0_1 l0_2 a1_7 a1_2 a2).bind fun bt610 => (snowlineref01_turns.l0 k 0 a1_0 a1_1 a1_2 a1_3 a1_4 a1_5 a1_6 a1_7 l1_8 bt610.1 bt610.2)) = some (r1, r2, r3) := h
 clear h
 replace H := Option.bind_eq_some_iff.mp H
 obtain ⟨⟨t610, t611⟩, A40, H⟩ := H
 have A4 := Aside0.mk (A40)
 clear A40
 have H' := Aside0.mk H
 clear H
 go_enter Tryd.func84, Tryd.ntmps84
 go_wp2_with (first | ((with_reducible refine gate_dst (N := 3) rfl ?_); refine bxE 3 24 #[.int .i64 a0_0, .int .i64 a0_1, .slice A0_2 l0_2.length c0_2] (by rfl) (by rfl) (by first | (go_simp; done) | (go_simp; rfl)) ?_; intro gb607 hg w5 hbox hb; have BK607 := Bk.mk (hbox); have GE607 := eB w hg; replace HB := bS w hb; clear hb hbox hg) | ((with_reducible refine gate_dst (N := 4) rfl ?_); refine bxE 4 47 #[.int .i64 a1_0, .int .i64 a1_1, .int .i64 a1_2, .int .i64 a1_3, .int .i64 a1_4, .int .i64 a1_5, .int .i64 a1_6, .int .i64 a1_7, .slice A1_8 l1_8.length c1_8] (by rfl) (by rfl) (by first | (go_simp; done) | (go_simp; rfl)) ?_; intro gb608 hg w6 hbox hb; have BK608 := Bk.mk (hbox); have GE608 := eB w hg; have NB607_608 := nB gb607 hg; replace BK607 := kB gb607 hb; replace HB := bS w hb; clear hb hbox hg) | ((with_reducible refine gate_dst (N := 6) rfl ?_); refine bxE 6 40 #[.int .i64 0, .int .i64 0] (by rfl) (by rfl) (by first | (go_simp; done) | (go_simp; rfl)) ?_; intro gb609 hg w7 hbox hb; have BK609 := Bk.mk (hbox); have GE609 := eB w hg; have NB607_609 := nB gb607 hg; have NB608_609 := nB gb608 hg; replace BK607 := kB gb607 hb; replace BK608 := kB gb608 hb; replace HB := bS w hb; clear hb hbox hg; obtain ⟨hnb8, hnc8⟩ := nn NB607_608; obtain ⟨hnb9, hnc9⟩ := nn NB607_609; obtain ⟨hcz10_0, hcz10_1, hcz10_2, hfz10_0, hfz10_1, hfz10_2⟩ := cz3 BK607; obtain ⟨hnb11, hnc11⟩ := nn NB608_609; obtain ⟨hcz12_0, hcz12_1, hcz12_2, hcz12_3, hcz12_4, hcz12_5, hcz12_6, hcz12_7, hcz12_8, hfz12_0, hfz12_1, hfz12_2, hfz12_3, hfz12_4, hfz12_5, hfz12_6, hfz12_7, hfz12_8⟩ := cz9 BK608) | ((with_reducible refine gate_callee (f := 80) rfl ?_); refine goesLM (some 16) rfl rfl Tryd.func80 (by kernel_rfl) rfl #[.agg #[.int .i64 a0_0, .int .i64 a0_1, .slice A0_2 l0_2.length c0_2], .int .i64 a1_7, .int .i64 a1_2, .int .i64 a2] rfl (by rfl) ?_; (with_reducible refine (snowlineref01_turn.calls k a0_0 a0_1 _ _ l0_2 a1_7 a1_2 a2 t610 t611 _ ?side1 ?side2 A4.out).mono ?_); (case side1 => exact cP (Kd.C_below HR0_2.out HB.out)); (case side2 => exact HC0_2.out); rintro e w13 ⟨rfl, hb⟩; refine ⟨_, rfl, ?_⟩; replace BK607 := kB gb607 hb; replace BK608 := kB gb608 hb; replace BK609 := kB gb609 hb; replace HB := bS w hb; (try clear hb)) | ((with_reducible refine gate_dst (N := 8) rfl ?_); refine bxE 8 40 #[.int .i64 0, .int .i64 0] (by rfl) (by rfl) (by first | (go_simp; done) | (go_simp; rfl)) ?_; intro gb612 hg w14 hbox hb; have BK612 := Bk.mk (hbox); have GE612 := eB w hg; have NB607_612 := nB gb607 hg; have NB608_612 := nB gb608 hg; have NB609_612 := nB gb609 hg; replace BK607 := kB gb607 hb; replace BK608 := kB gb608 hb; replace BK609 := kB gb609 hb; replace HB := bS w hb; clear hb hbox hg; obtain ⟨hnc15, hnb15⟩ := nn NB607_612; obtain ⟨hnc16, hnb16⟩ := nn NB608_612; obtain ⟨hnc17, hnb17⟩ := nn NB609_612; obtain ⟨hcz18_0, hcz18_1, hfz18_0, hfz18_1⟩ := cz2 BK612))
 go_loopg [9] k (fun kq v9 w' => ∃ (x9_1 : Int) (x613001_1 : Int), v9 = .int .i64 x9_1 ∧ Aside0 (snowlineref01_turns.l0 kq x9_1 a1_0 a1_1 a1_2 a1_3 a1_4 a1_5 a1_6 a1_7 l1_8 t610 x613001_1 = some (r1, r2, r3)) ∧ Aside0 (kq ≤ k) ∧ Bk w' gb607 (.cells #[.int .i64 a0_0, .int .i64 a0_1, (.slice A0_2 l0_2.length c0_2)] 24 (0, 0)) ∧ Bk w' gb608 (.cells #[.int .i64 a1_0, .int .i64 a1_1, .int .i64 a1_2, .int .i64 a1_3, .int .i64 a1_4, .int .i64 a1_5, .int .i64 a1_6, .int .i64 a1_7, (.slice A1_8 l1_8.length c1_8)] 47 (0, 0)) ∧ Bk w' gb609 (.cells #[.int .i64 0, .int .i64 0] 40 (0, 0)) ∧ Bk w' gb612 (.cells #[.int .i64 t610, .int .i64 x613001_1] 40 (0, 0)) ∧ Bw w w')
 case atStart => exact ⟨(0), (t611), (by first | rfl | (simp; done) | (simp [*]; done)), H', ⟨Nat.le_refl _⟩, ⟨bko gb607 (by rfl)⟩, ⟨bko gb608 (by rfl)⟩, ⟨bko gb609 (by rfl)⟩, ⟨bko gb612 (by rfl)⟩, inferInstance⟩
 case round =>
  clear H'
  try clear c1
  try clear p2
  try clear c8
  try clear c9
  try clear c11
  try clear c15
  try clear c16
  try clear c17
  obtain ⟨x9_1, x613001_1, rfl, HA, HK1, BK607, BK608, BK609, BK612, HB⟩ := hrel
  cases gk with
  | zero => exact absurd HA.out (by simp [snowlineref01_turns.l0])
  | succ k1 =>
   have H := HA.out
   clear HA
   simp only [snowlineref01_turns.l0] at H
   by_cases c19 : x9_1 < (l1_8.length : Int)
   ·
    rw [if_pos c19] at H
    have c19b0 : decide (x9_1 < (l1_8.length : Int)) = true := decide_eq_true c19
    clear c19
    by_cases c20 : 0 ≤ x9_1
    ·
     rw [if_pos c20] at H
     have c20b0 : decide (0 ≤ x9_1) = true := decide_eq_true c20
     clear c20
     obtain ⟨ji21, hji21⟩ : ∃ j_ : Int, (mn x613001_1 (wrap64 (((rd_T71 l1_8 x9_1).f2) - a1_6))) = j_ := ⟨_, rfl⟩
     replace H : (snowlineref01_turns.l0 k1 (wrap64 (x9_1 + 1)) a1_0 a1_1 a1_2 a1_3 a1_4 a1_5 a1_6 a1_7 l1_8 t610 ji21) = some (r1, r2, r3) := by first | (rw [hji21] at H; exact H) | (simp only [hji21] at H ⊢; exact H)
     have hji21_ : (if (wrap64 (((rd_T71 l1_8 x9_1).f2) - a1_6)) < x613001_1 then (wrap64 (((rd_T71 l1_8 x9_1).f2) - a1_6)) else x613001_1) = ji21 := hji21
     have H' := Aside0.mk H
     clear H
     obtain ⟨hnc22, hnb22⟩ := nn NB607_608
     obtain ⟨hnb23, hnc23⟩ := nn NB608_609
     obtain ⟨hnb24, hnc24⟩ := nn NB608_612
     obtain ⟨hcz25_0, hcz25_1, hcz25_2, hcz25_3, hcz25_4, hcz25_5, hcz25_6, hcz25_7, hcz25_8, hfz25_0, hfz25_1, hfz25_2, hfz25_3, hfz25_4, hfz25_5, hfz25_6, hfz25_7, hfz25_8⟩ := cz9 BK608
     try go_wp2
     have n0_ := Bk.mk (blk_drew BK607.out)
     have n1_ := Bk.mk (blk_drew BK608.out)
     have n2_ := Bk.mk (blk_drew BK609.out)
     have n3_ := Bk.mk (blk_drew BK612.out)
     have n4_ := Bw.mk (below_drew1 HB.out)
     clear BK607 BK608 BK609 BK612 HB
     have BK607 := n0_
     have BK608 := n1_
     have BK609 := n2_
     have BK612 := n3_
     have HB := n4_
     clear n0_ n1_ n2_ n3_ n4_
     have p613 : 0 ≤ (x9_1 : Int) := of_decide_eq_true (by first | (with_reducible assumption) | assumption)
     have q613 : x9_1 < (l1_8.length : Int) := of_decide_eq_true (by first | (with_reducible assumption) | assumption)
     obtain ⟨ad613, e613, hx613_0, hx613_1, hx613_2, hx613_3, hx613_4⟩ := at_T71 HR1_8.out x9_1 p613 q613
     have hw613_4 := hx613_4
     have hw613_3 := hx613_3
     have hw613_2 := hx613_2
     have hw613_1 := hx613_1
     have hw613_0 := hx613_0
     cases e613
     replace hx613_0 := cB HB hx613_0
     replace hx613_1 := cB HB hx613_1
     replace hx613_2 := cB HB hx613_2
     replace hx613_3 := cB HB hx613_3
     replace hx613_4 := cB HB hx613_4
     replace p613 := eq_true p613
     replace q613 := eq_true q613
     refine start_ (n := 14) (S := fun w' => w'.cell? ⟨gb612, 0, none⟩ = some (.int .i64 t610) ∧ w'.cell? ⟨gb612, 1, none⟩ = some (.int .i64 x613001_1) ∧ w'.cell? ⟨gb608, 0, none⟩ = some (.int .i64 a1_0) ∧ w'.cell? ⟨gb608, 1, none⟩ = some (.int .i64 a1_1) ∧ w'.cell? ⟨gb608, 2, none⟩ = some (.int .i64 a1_2) ∧ w'.cell? ⟨gb608, 3, none⟩ = some (.int .i64 a1_3) ∧ w'.cell? ⟨gb608, 4, none⟩ = some (.int .i64 a1_4) ∧ w'.cell? ⟨gb608, 5, none⟩ = some (.int .i64 a1_5) ∧ w'.cell? ⟨gb608, 6, none⟩ = some (.int .i64 a1_6) ∧ w'.cell? ⟨gb608, 7, none⟩ = some (.int .i64 a1_7) ∧ w'.cell? ⟨gb608, 8, none⟩ = some (.slice (some ad613) l1_8.length c1_8) ∧ w'.cell? (ad613.add ((x9_1).toNat * 5)) = some (.int .i64 ((rd_T71 l1_8 x9_1).f0)) ∧ w'.cell? ⟨(ad613.add ((x9_1).toNat * 5)).block, (ad613.add ((x9_1).toNat * 5)).off + 1, none⟩ = some (.int .i64 ((rd_T71 l1_8 x9_1).f1)) ∧ w'.cell? ⟨(ad613.add ((x9_1).toNat * 5)).block, (ad613.add ((x9_1).toNat * 5)).off + 2, none⟩ = some (.int .i64 ((rd_T71 l1_8 x9_1).f2)) ∧ w'.cell? ⟨(ad613.add ((x9_1).toNat * 5)).block, (ad613.add ((x9_1).toNat * 5)).off + 3, none⟩ = some (.int .i64 ((rd_T71 l1_8 x9_1).f3)) ∧ w'.cell? ⟨(ad613.add ((x9_1).toNat * 5)).block, (ad613.add ((x9_1).toNat * 5)).off + 4, none⟩ = some (.int .i64 ((rd_T71 l1_8 x9_1).f4))) (ds := [13]) #[false, false, false, false, false, false, false, false, false, false, false, false, false, false] (by kernel_rfl) rfl rfl ⟨bc BK612 0, bc BK612 1, bc BK608 0, bc BK608 1, bc BK608 2, bc BK608 3, bc BK608 4, bc BK608 5, bc BK608 6, bc BK608 7, bc BK608 8, ((HB.out.cell (World.block_lt_of_cell? w _ hw613_0)).trans hw613_0), ((HB.out.cell (World.block_lt_of_cell? w _ hw613_1)).trans hw613_1), ((HB.out.cell (World.block_lt_of_cell? w _ hw613_2)).trans hw613_2), ((HB.out.cell (World.block_lt_of_cell? w _ hw613_3)).trans hw613_3), ((HB.out.cell (World.block_lt_of_cell? w _ hw613_4)).trans hw613_4)⟩ (fun hHeld => ?_); refine with_tabW snowlineref01_turns.tab5 snowlineref01_turns.bits5 (fun HT_ HW_ => ?_)
     generalize wr.drew = w26 at BK607 BK608 BK609 BK612 HB hx613_0 hx613_1 hx613_2 hx613_3 hx613_4 hHeld ⊢
     refine pS 0 (some 24) rfl rfl (any_of HT_.out (by kernel_rfl)) (fun _ _ _ h => h) (by rfl) (fun w' => by go_simp; with_reducible rfl) (by simp only [Act.put, List.setIfInBounds_toArray, List.set_cons_zero, List.set_cons_succ, i64_w]; rfl) ?_
     refine pS 2 (some 26) rfl rfl (any_of HT_.out (by kernel_rfl)) (fun _ _ _ h => h) (by rfl) (fun w' => by go_simp; with_reducible rfl) (by simp only [Act.put, List.setIfInBounds_toArray, List.set_cons_zero, List.set_cons_succ, i64_w]; rfl) ?_
     refine pS 4 (some 28) rfl rfl (any_of HT_.out (by kernel_rfl)) (fun _ _ _ h => h) (by rfl) (fun w' => by go_simp; with_reducible rfl) (by simp only [Act.put, List.setIfInBounds_toArray, List.set_cons_zero, List.set_cons_succ, i64_w]; rfl) ?_
     refine pS 8 (some 32) rfl rfl (any_of HT_.out (by kernel_rfl)) (fun _ _ _ h => h) (by rfl) (fun w' => by go_simp; with_reducible rfl) (by simp only [Act.put, List.setIfInBounds_toArray, List.set_cons_zero, List.set_cons_succ, i64_w]; rfl) ?_
     refine tS 1 (some 25) rfl rfl (take_ofW HT_.out HW_.out (by kernel_rfl)) (fun _ _ _ h => h) (by rfl) (by rintro w' ⟨s0, s1, s2, s3, s4, s5, s6, s7, s8, s9, s10, s11, s12, s13, s14, s15⟩; go_simp; with_reducible rfl) hHeld (by simp only [Act.put, List.setIfInBounds_toArray, List.set_cons_zero, List.set_cons_succ, i64_w]; rfl) ?_
     refine tS 3 (some 27) rfl rfl (take_ofW HT_.out HW_.out (by kernel_rfl)) (fun _ _ _ h => h) (by rfl) (by rintro w' ⟨s0, s1, s2, s3, s4, s5, s6, s7, s8, s9, s10, s11, s12, s13, s14, s15⟩; go_simp; with_reducible rfl) hHeld (by simp only [Act.put, List.setIfInBounds_toArray, List.set_cons_zero, List.set_cons_succ, i64_w]; rfl) ?_
     refine pS 5 (some 29) rfl rfl (any_of HT_.out (by kernel_rfl)) (fun _ _ _ h => h) (by rfl) (fun w' => by go_simp; with_reducible rfl) (by simp only [Act.put, List.setIfInBounds_toArray, List.set_cons_zero, List.set_cons_succ, i64_w]; rfl) ?_
     refine pS 6 (some 30) rfl rfl (any_of HT_.out (by kernel_rfl)) (fun _ _ _ h => h) (by rfl) (fun w' => by go_simp; with_reducible rfl) (by simp only [Act.put, List.setIfInBounds_toArray, List.set_cons_zero, List.set_cons_succ, i64_w]; rfl) ?_
     refine tS 7 (some 31) rfl rfl (take_ofW HT_.out HW_.out (by kernel_rfl)) (fun _ _ _ h => h) (by rfl) (by rintro w' ⟨s0, s1, s2, s3, s4, s5, s6, s7, s8, s9, s10, s11, s12, s13, s14, s15⟩; go_simp; with_reducible rfl) hHeld (by simp only [Act.put, List.setIfInBounds_toArray, List.set_cons_zero, List.set_cons_succ, i64_w]; rfl) ?_
     refine tS 9 (some 33) rfl rfl (take_ofW HT_.out HW_.out (by kernel_rfl)) (fun _ _ _ h => h) (by rfl) (by rintro w' ⟨s0, s1, s2, s3, s4, s5, s6, s7, s8, s9, s10, s11, s12, s13, s14, s15⟩; go_simp; with_reducible rfl) hHeld (by simp only [Act.put, List.setIfInBounds_toArray, List.set_cons_zero, List.set_cons_succ, i64_w]; rfl) ?_
     refine pS 10 (some 34) rfl rfl (any_of HT_.out (by kernel_rfl)) (fun _ _ _ h => h) (by rfl) (fun w' => by go_simp; with_reducible rfl) (by simp only [Act.put, List.setIfInBounds_toArray, List.set_cons_zero, List.set_cons_succ, i64_w]; rfl) ?_
     refine pS 11 (some 35) rfl rfl (any_of HT_.out (by kernel_rfl)) (fun _ _ _ h => h) (by rfl) (fun w' => by go_simp; with_reducible rfl) (by simp only [Act.put, List.setIfInBounds_toArray, List.set_cons_zero, List.set_cons_succ, i64_w]; rfl) ?_
     refine pS 12 (some 36) rfl rfl (any_of HT_.out (by kernel_rfl)) (fun _ _ _ h => h) (by rfl) (fun w' => by go_simp; with_reducible rfl) (by simp only [Act.put, List.setIfInBounds_toArray, List.set_cons_zero, List.set_cons_succ, i64_w]; rfl) ?_
     refine last_ (i := 13) (N := none) #[true, true, true, true, true, true, true, true, true, true, true, true, true, true] rfl rfl (one_of HT_.out (by kernel_rfl)) (by decide) (fun K hK => ?_)
     have hs27 : w26.cell? ⟨gb612, 1, none⟩ = some (.int .i64 x613001_1) := bc BK612 1
     have hfs27 := blk_frozen BK612.out 1
     have hns27_0 := NB607_612.out
     have hns27_1 := NB608_612.out
     have hns27_2 := NB609_612.out
     have hms27_0 := NB607_612.out.symm
     have hms27_1 := NB608_612.out.symm
     have hms27_2 := NB609_612.out.symm
     refine skip_ (w1 := ?_) (by rfl) rfl ?_ ?_
     rotate_left
     ·
      go_simp
      rfl
     refine hK.out _ _ ?_
     clear hK K
     refine done_ (done_of HT_.out (by kernel_rfl)) ?_
     try go_wp2
     go_roundg k1
     case measure => have := HK1.out; omega
     case rel => exact ⟨(wrap64 (x9_1 + 1)), (ji21), (by first | rfl | (simp; done) | (simp [*]; done)), H', ⟨by have := HK1.out; omega⟩, ⟨bko gb607 (by rfl)⟩, ⟨bko gb608 (by rfl)⟩, ⟨bko gb609 (by rfl)⟩, ⟨bko gb612 (by rfl)⟩, inferInstance⟩
    ·
     rw [if_neg c20] at H
     exact absurd H (by simp)
   ·
    rw [if_neg c19] at H
    have c19b0 : decide (x9_1 < (l1_8.length : Int)) = false := decide_eq_false c19
    clear c19
    simp only [Option.some.injEq, Prod.mk.injEq] at H
    obtain ⟨rfl, rfl, rfl⟩ := H
    obtain ⟨hnc28, hnb28⟩ := nn NB607_608
    obtain ⟨hnb29, hnc29⟩ := nn NB608_609
    obtain ⟨hnb30, hnc30⟩ := nn NB608_612
    obtain ⟨hcz31_0, hcz31_1, hcz31_2, hcz31_3, hcz31_4, hcz31_5, hcz31_6, hcz31_7, hcz31_8, hfz31_0, hfz31_1, hfz31_2, hfz31_3, hfz31_4, hfz31_5, hfz31_6, hfz31_7, hfz31_8⟩ := cz9 BK608
    try go_wp2
    have n0_ := Bk.mk (blk_drew BK607.out)
    have n1_ := Bk.mk (blk_drew BK608.out)
    have n2_ := Bk.mk (blk_drew BK609.out)
    have n3_ := Bk.mk (blk_drew BK612.out)
    have n4_ := Bw.mk (below_drew1 HB.out)
    clear BK607 BK608 BK609 BK612 HB
    have BK607 := n0_
    have BK608 := n1_
    have BK609 := n2_
    have BK612 := n3_
    have HB := n4_
    clear n0_ n1_ n2_ n3_ n4_
    refine start_ (n := 8) (S := fun w' => w'.cell? ⟨gb612, 0, none⟩ = some (.int .i64 t610) ∧ w'.cell? ⟨gb612, 1, none⟩ = some (.int .i64 x613001_1)) (ds := []) #[false, false, false, false, false, false, false, false] (by kernel_rfl) rfl rfl ⟨bc BK612 0, bc BK612 1⟩ (fun hHeld => ?_); refine with_tabW snowlineref01_turns.tab6 snowlineref01_turns.bits6 (fun HT_ HW_ => ?_)
    generalize wr.drew = w32 at BK607 BK608 BK609 BK612 HB hHeld ⊢
    refine pS 1 (some 38) rfl rfl (any_of HT_.out (by kernel_rfl)) (fun _ _ _ h => h) (by rfl) (fun w' => by go_simp; with_reducible rfl) (by simp only [Act.put, List.setIfInBounds_toArray, List.set_cons_zero, List.set_cons_succ, i64_w]; rfl) ?_
    refine pS 3 (some 40) rfl rfl (any_of HT_.out (by kernel_rfl)) (fun _ _ _ h => h) (by rfl) (fun w' => by go_simp; with_reducible rfl) (by simp only [Act.put, List.setIfInBounds_toArray, List.set_cons_zero, List.set_cons_succ, i64_w]; rfl) ?_
    refine tS 0 (some 37) rfl rfl (take_ofW HT_.out HW_.out (by kernel_rfl)) (fun _ _ _ h => h) (by rfl) (by rintro w' ⟨s0, s1⟩; go_simp; with_reducible rfl) hHeld (by simp only [Act.put, List.setIfInBounds_toArray, List.set_cons_zero, List.set_cons_succ, i64_w]; rfl) ?_
    refine tS 2 (some 39) rfl rfl (take_ofW HT_.out HW_.out (by kernel_rfl)) (fun _ _ _ h => h) (by rfl) (by rintro w' ⟨s0, s1⟩; go_simp; with_reducible rfl) hHeld (by simp only [Act.put, List.setIfInBounds_toArray, List.set_cons_zero, List.set_cons_succ, i64_w]; rfl) ?_
    refine tS 4 (some 41) rfl rfl (take_ofW HT_.out HW_.out (by kernel_rfl)) (fun _ _ _ h => h) (by rfl) (by rintro w' ⟨s0, s1⟩; go_simp; with_reducible rfl) hHeld (by simp only [Act.put, List.setIfInBounds_toArray, List.set_cons_zero, List.set_cons_succ, i64_w]; rfl) ?_
    refine pS 5 (some 42) rfl rfl (any_of HT_.out (by kernel_rfl)) (fun _ _ _ h => h) (by rfl) (fun w' => by go_simp; with_reducible rfl) (by simp only [Act.put, List.setIfInBounds_toArray, List.set_cons_zero, List.set_cons_succ, i64_w]; rfl) ?_
    refine one_ (i := 6) (N := none) #[true, true, true, true, true, true, true, false] rfl rfl (one_of HT_.out (by kernel_rfl)) (by decide) (fun K hK => ?_)
    have hs33 : w32.cell? ⟨gb609, 0, none⟩ = some (.int .i64 0) := bc BK609 0
    have hfs33 := blk_frozen BK609.out 0
    have hns33_0 := NB607_609.out
    have hns33_1 := NB608_609.out
    have hns33_3 := NB609_612.out.symm
    have hms33_0 := NB607_609.out.symm
    have hms33_1 := NB608_609.out.symm
    have hms33_3 := NB609_612.out
    have hs34 : w32.cell? ⟨gb609, 1, none⟩ = some (.int .i64 0) := bc BK609 1
    have hfs34 := blk_frozen BK609.out 1
    have hns34_0 := NB607_609.out
    have hns34_1 := NB608_609.out
    have hns34_3 := NB609_612.out.symm
    have hms34_0 := NB607_609.out.symm
    have hms34_1 := NB608_609.out.symm
    have hms34_3 := NB609_612.out
    refine skip_ (w1 := ?_) (by rfl) rfl ?_ ?_
    rotate_left
    ·
     go_simp
     rfl
    refine hK.out _ _ ⟨((cell_far (p := ⟨gb609, _, none⟩) NB609_612.out.symm _).trans (((cell_far (p := ⟨gb609, _, none⟩) NB609_612.out.symm _).trans (hHeld.1)))), ((cell_far (p := ⟨gb609, _, none⟩) NB609_612.out.symm _).trans (((cell_far (p := ⟨gb609, _, none⟩) NB609_612.out.symm _).trans (hHeld.2))))⟩ (fun hHeld => ?_)
    clear hK K
    refine pS 7 (some 7) rfl rfl (any_of HT_.out (by kernel_rfl)) (fun _ _ _ h => h) (by rfl) (fun w' => by go_simp; with_reducible rfl) (by simp only [Act.put, List.setIfInBounds_toArray, List.set_cons_zero, List.set_cons_succ, i64_w]; rfl) ?_
    refine done_ (done_of HT_.out (by kernel_rfl)) ?_
    try go_wp2
    all_goals (refine bodyPost_ret (results_ct rfl _ _ gb609 40 #[.int .i64 t610, .int .i64 x613001_1] (0, 0) _ rfl (bko gb609 (by rfl)) Tryd.underlying40 rfl (by kernel_rfl)) rfl ?_; exact ⟨by first | rfl | (simp [errW_none, errW_some] <;> rfl) | (simp [*, errW_none, errW_some] <;> rfl), bw w⟩)
def snowlineref01_core.f (a0_0 : Int) (a0_1 : Int) (a0_2 : Int) (a0_3 : Int) (a0_4 : Int) (a0_5 : Int) (a0_6 : Int) (a0_7 : Int) (l0_8 : List (S71)) (a1 : Int) (a2_0 : Int) (a2_1 : Int) : Option (Int × Int) := if 0 ≤ a1 then (if a1 < (l0_8.length : Int) then (some (mx 0 (wrap64 ((wrap64 ((wrap64 (((rd_T71 l0_8 a1).f2) - a0_6)) - a2_1)) - ((rd_T71 l0_8 a1).f4))), wrap64 ((wrap64 (((rd_T71 l0_8 a1).f2) - a0_6)) - a2_0))) else (none)) else (none)
set_option maxHeartbeats 8000000 in
set_option maxRecDepth 100000 in
theorem snowlineref01_core.calls (a0_0 : Int) (a0_1 : Int) (a0_2 : Int) (a0_3 : Int) (a0_4 : Int) (a0_5 : Int) (a0_6 : Int) (a0_7 : Int) (A0_8 : Option Addr) (c0_8 : Nat) (l0_8 : List (S71)) (a1 : Int) (a2_0 : Int) (a2_1 : Int) (r1 : Int) (r2 : Int) (w : World) (hr0_8 : Kd.C k71 w A0_8 l0_8.length l0_8) (hc0_8 : l0_8.length ≤ c0_8) (h : snowlineref01_core.f a0_0 a0_1 a0_2 a0_3 a0_4 a0_5 a0_6 a0_7 l0_8 a1 a2_0 a2_1 = some (r1, r2)) :
  Calls Tryd.prog 85 #[.agg #[.int .i64 a0_0, .int .i64 a0_1, .int .i64 a0_2, .int .i64 a0_3, .int .i64 a0_4, .int .i64 a0_5, .int .i64 a0_6, .int .i64 a0_7, .slice A0_8 l0_8.length c0_8], .int .i64 a1, .agg #[.int .i64 a2_0, .int .i64 a2_1]] w fun e w' => e = .returned (.agg #[.int .i64 r1, .int .i64 r2]) ∧ Below w.heap.size w w' := by
 have hu47 := Tryd.underlying47
 have hu40 := Tryd.underlying40
 have hu71 := Tryd.underlying71
 have HR0_8 := Aside0.mk (hr0_8)
 have HC0_8 := Aside0.mk (hc0_8)
 clear hr0_8 hc0_8
 have HB := Bw.mk (Below.refl w.heap.size w)
 have H : (if 0 ≤ a1 then (if a1 < (l0_8.length : Int) then (some (mx 0 (wrap64 ((wrap64 ((wrap64 (((rd_T71 l0_8 a1).f2) - a0_6)) - a2_1)) - ((rd_T71 l0_8 a1).f4))), wrap64 ((wrap64 (((rd_T71 l0_8 a1).f2) - a0_6)) - a2_0))) else (none)) else (none)) = some (r1, r2) := h
 clear h
 by_cases c4 : 0 ≤ a1
 ·
  rw [if_pos c4] at H
  have c4b0 : decide (0 ≤ a1) = true := decide_eq_true c4
  clear c4
  by_cases c5 : a1 < (l0_8.length : Int)
  ·
   rw [if_pos c5] at H
   have c5b0 : decide (a1 < (l0_8.length : Int)) = true := decide_eq_true c5
   clear c5
   obtain ⟨ji6, hji6⟩ : ∃ j_ : Int, (mx 0 (wrap64 ((wrap64 ((wrap64 (((rd_T71 l0_8 a1).f2) - a0_6)) - a2_1)) - ((rd_T71 l0_8 a1).f4)))) = j_ := ⟨_, rfl⟩
   replace H : (some (ji6, wrap64 ((wrap64 (((rd_T71 l0_8 a1).f2) - a0_6)) - a2_0))) = some (r1, r2) := by first | (rw [hji6] at H; exact H) | (simp only [hji6] at H ⊢; exact H)
   (try (have hji6l : 0 ≤ ji6 := by (rw [← hji6]; unfold mx; (repeat' split) <;> omega)))
   (try (have hji6m : 0 ≤ ji6 := by omega))
   have hji6_ : (if 0 < (wrap64 ((wrap64 ((wrap64 (((rd_T71 l0_8 a1).f2) - a0_6)) - a2_1)) - ((rd_T71 l0_8 a1).f4))) then (wrap64 ((wrap64 ((wrap64 (((rd_T71 l0_8 a1).f2) - a0_6)) - a2_1)) - ((rd_T71 l0_8 a1).f4))) else 0) = ji6 := hji6
   simp only [Option.some.injEq, Prod.mk.injEq] at H
   obtain ⟨rfl, rfl⟩ := H
   go_enter Tryd.func85, Tryd.ntmps85
   go_wp2_with (first | ((with_reducible refine gate_dst (N := 3) rfl ?_); refine bxE 3 47 #[.int .i64 a0_0, .int .i64 a0_1, .int .i64 a0_2, .int .i64 a0_3, .int .i64 a0_4, .int .i64 a0_5, .int .i64 a0_6, .int .i64 a0_7, .slice A0_8 l0_8.length c0_8] (by rfl) (by rfl) (by first | (go_simp; done) | (go_simp; rfl)) ?_; intro gb614 hg w7 hbox hb; have BK614 := Bk.mk (hbox); have GE614 := eB w hg; replace HB := bS w hb; clear hb hbox hg) | ((with_reducible refine gate_dst (N := 5) rfl ?_); refine bxE 5 40 #[.int .i64 a2_0, .int .i64 a2_1] (by rfl) (by rfl) (by first | (go_simp; done) | (go_simp; rfl)) ?_; intro gb615 hg w8 hbox hb; have BK615 := Bk.mk (hbox); have GE615 := eB w hg; have NB614_615 := nB gb614 hg; replace BK614 := kB gb614 hb; replace HB := bS w hb; clear hb hbox hg) | ((with_reducible refine gate_dst (N := 6) rfl ?_); refine bxE 6 40 #[.int .i64 0, .int .i64 0] (by rfl) (by rfl) (by first | (go_simp; done) | (go_simp; rfl)) ?_; intro gb616 hg w9 hbox hb; have BK616 := Bk.mk (hbox); have GE616 := eB w hg; have NB614_616 := nB gb614 hg; have NB615_616 := nB gb615 hg; replace BK614 := kB gb614 hb; replace BK615 := kB gb615 hb; replace HB := bS w hb; clear hb hbox hg; obtain ⟨hnb10, hnc10⟩ := nn NB614_615; obtain ⟨hnb11, hnc11⟩ := nn NB614_616; obtain ⟨hcz12_0, hcz12_1, hcz12_2, hcz12_3, hcz12_4, hcz12_5, hcz12_6, hcz12_7, hcz12_8, hfz12_0, hfz12_1, hfz12_2, hfz12_3, hfz12_4, hfz12_5, hfz12_6, hfz12_7, hfz12_8⟩ := cz9 BK614; have p617 : 0 ≤ (a1 : Int) := of_decide_eq_true (by first | (with_reducible assumption) | assumption); have q617 : a1 < (l0_8.length : Int) := of_decide_eq_true (by first | (with_reducible assumption) | assumption); obtain ⟨ad617, e617, hx617_0, hx617_1, hx617_2, hx617_3, hx617_4⟩ := at_T71 HR0_8.out a1 p617 q617; cases e617; replace hx617_0 := cB HB hx617_0; replace hx617_1 := cB HB hx617_1; replace hx617_2 := cB HB hx617_2; replace hx617_3 := cB HB hx617_3; replace hx617_4 := cB HB hx617_4; replace p617 := eq_true p617; replace q617 := eq_true q617) | ((with_reducible refine gate_dst (N := 7) rfl ?_); refine bxE 7 71 #[.int .i64 0, .int .i64 0, .int .i64 0, .int .i64 0, .int .i64 0] (by rfl) (by rfl) (by first | (go_simp; done) | (go_simp; rfl)) ?_; intro gb618 hg w13 hbox hb; have BK618 := Bk.mk (hbox); have GE618 := eB w hg; have NB614_618 := nB gb614 hg; have NB615_618 := nB gb615 hg; have NB616_618 := nB gb616 hg; replace BK614 := kB gb614 hb; replace BK615 := kB gb615 hb; replace BK616 := kB gb616 hb; replace HB := bS w hb; clear hb hbox hg; obtain ⟨hnc14, hnb14⟩ := nn NB614_618; obtain ⟨hnc15, hnb15⟩ := nn NB615_618; obtain ⟨hnc16, hnb16⟩ := nn NB616_618; obtain ⟨hcz17_0, hcz17_1, hcz17_2, hcz17_3, hcz17_4, hfz17_0, hfz17_1, hfz17_2, hfz17_3, hfz17_4⟩ := cz5 BK618; obtain ⟨hcz18_0, hcz18_1, hcz18_2, hcz18_3, hcz18_4, hcz18_5, hcz18_6, hcz18_7, hcz18_8, hfz18_0, hfz18_1, hfz18_2, hfz18_3, hfz18_4, hfz18_5, hfz18_6, hfz18_7, hfz18_8⟩ := cz9 BK614; obtain ⟨hnb19, hnc19⟩ := nn NB615_616; obtain ⟨hcz20_0, hcz20_1, hfz20_0, hfz20_1⟩ := cz2 BK615; obtain ⟨hcz21_0, hcz21_1, hfz21_0, hfz21_1⟩ := cz2 BK616))
   all_goals (refine bodyPost_ret (results_cell_row rfl _ _ gb616 40 #[.int .i64 ji6, .int .i64 (wrap64 ((wrap64 (((rd_T71 l0_8 a1).f2) - a0_6)) - a2_0))] (0, 0) _ rfl (bko gb616 (by rfl)) Tryd.underlying40 rfl (by kernel_rfl)) rfl ?_; exact ⟨by first | rfl | (simp [errW_none, errW_some] <;> rfl) | (simp only [← hji6]; first | rfl | (simp [errW_none, errW_some] <;> rfl)) | (simp [*, errW_none, errW_some] <;> rfl), bw w⟩)
  ·
   rw [if_neg c5] at H
   exact absurd H (by simp)
 ·
  rw [if_neg c4] at H
  exact absurd H (by simp)
def snowlineref01_Core.f (k : Nat) (a0_0 : Int) (a0_1 : Int) (l0_2 : List (S26)) (a1_0 : Int) (a1_1 : Int) (a1_2 : Int) (a1_3 : Int) (a1_4 : Int) (a1_5 : Int) (a1_6 : Int) (a1_7 : Int) (l1_8 : List (S71)) (a2 : Int) (a3 : Int) : Option (Int × Int × Int) := (snowlineref01_weighed.f k a0_0 a0_1 l0_2 a1_0 a1_1 a1_2 a1_3 a1_4 a1_5 a1_6 a1_7 l1_8 a2 a3).bind fun t622 => (if t622 = 0 then ((snowlineref01_turns.f k a0_0 a0_1 l0_2 a1_0 a1_1 a1_2 a1_3 a1_4 a1_5 a1_6 a1_7 l1_8 a3).bind fun bt623 => (if bt623.2.2 = true then ((snowlineref01_core.f a1_0 a1_1 a1_2 a1_3 a1_4 a1_5 a1_6 a1_7 l1_8 a2 bt623.1 bt623.2.1).bind fun bt627 => (some (bt627.1, bt627.2, 0))) else (some (0, 0, 13)))) else (some (0, 0, t622)))
set_option maxHeartbeats 8000000 in
set_option maxRecDepth 100000 in
theorem snowlineref01_Core.calls (k : Nat) (a0_0 : Int) (a0_1 : Int) (A0_2 : Option Addr) (c0_2 : Nat) (l0_2 : List (S26)) (a1_0 : Int) (a1_1 : Int) (a1_2 : Int) (a1_3 : Int) (a1_4 : Int) (a1_5 : Int) (a1_6 : Int) (a1_7 : Int) (A1_8 : Option Addr) (c1_8 : Nat) (l1_8 : List (S71)) (a2 : Int) (a3 : Int) (r1 : Int) (r2 : Int) (r3 : Int) (w : World) (hr0_2 : Kd.C k26 w A0_2 l0_2.length l0_2) (hc0_2 : l0_2.length ≤ c0_2) (hr1_8 : Kd.C k71 w A1_8 l1_8.length l1_8) (hc1_8 : l1_8.length ≤ c1_8) (h : snowlineref01_Core.f k a0_0 a0_1 l0_2 a1_0 a1_1 a1_2 a1_3 a1_4 a1_5 a1_6 a1_7 l1_8 a2 a3 = some (r1, r2, r3)) :
  Calls Tryd.prog 28 #[.agg #[.int .i64 a0_0, .int .i64 a0_1, .slice A0_2 l0_2.length c0_2], .agg #[.int .i64 a1_0, .int .i64 a1_1, .int .i64 a1_2, .int .i64 a1_3, .int .i64 a1_4, .int .i64 a1_5, .int .i64 a1_6, .int .i64 a1_7, .slice A1_8 l1_8.length c1_8], .int .i64 a2, .int .i64 a3] w fun e w' => e = .returned (.tuple #[.agg #[.int .i64 r1, .int .i64 r2], .int .i64 r3]) ∧ Below w.heap.size w w' := by
 have hu24 := Tryd.underlying24
 have hu47 := Tryd.underlying47
 have hu40 := Tryd.underlying40
 have HR0_2 := Aside0.mk (hr0_2)
 have HC0_2 := Aside0.mk (hc0_2)
 clear hr0_2 hc0_2
 have HR1_8 := Aside0.mk (hr1_8)
 have HC1_8 := Aside0.mk (hc1_8)
 clear hr1_8 hc1_8
 have HB := Bw.mk (Below.refl w.heap.size w)
 have H : ((snowlineref01_weighed.f k a0_0 a0_1 l0_2 a1_0 a1_1 a1_2 a1_3 a1_4 a1_5 a1_6 a1_7 l1_8 a2 a3).bind fun t622 => (if t622 = 0 then ((snowlineref01_turns.f k a0_0 a0_1 l0_2 a1_0 a1_1 a1_2 a1_3 a1_4 a1_5 a1_6 a1_7 l1_8 a3).bind fun bt623 => (if bt623.2.2 = true then ((snowlineref01_core.f a1_0 a1_1 a1_2 a1_3 a1_4 a1_5 a1_6 a1_7 l1_8 a2 bt623.1 bt623.2.1).bind fun bt627 => (some (bt627.1, bt627.2, 0))) else (some (0, 0, 13)))) else (some (0, 0, t622)))) = some (r1, r2, r3) := h
 clear h
 replace H := Option.bind_eq_some_iff.mp H
 obtain ⟨t622, A50, H⟩ := H
 have A5 := Aside0.mk (A50)
 clear A50
 by_cases c6 : t622 = 0
 ·
  rw [if_pos c6] at H
  have c6b0 : (t622 == 0) = true := beq_iff_eq.mpr c6
  have c6b1 : (t622 != 0) = false := bne_eq_false_iff_eq.mpr c6
  clear c6
  replace H := Option.bind_eq_some_iff.mp H
  obtain ⟨⟨t623, t624, t625⟩, A70, H⟩ := H
  have A7 := Aside0.mk (A70)
  clear A70
  by_cases c8 : t625 = true
  ·
   subst c8
   rw [if_pos rfl] at H
   replace H := Option.bind_eq_some_iff.mp H
   obtain ⟨⟨t627, t628⟩, A90, H⟩ := H
   have A9 := Aside0.mk (A90)
   clear A90
   simp only [Option.some.injEq, Prod.mk.injEq] at H
   obtain ⟨rfl, rfl, rfl⟩ := H
   go_enter Tryd.func28, Tryd.ntmps28
   go_wp2_with (first | ((with_reducible refine gate_dst (N := 4) rfl ?_); refine bxE 4 24 #[.int .i64 a0_0, .int .i64 a0_1, .slice A0_2 l0_2.length c0_2] (by rfl) (by rfl) (by first | (go_simp; done) | (go_simp; rfl)) ?_; intro gb619 hg w10 hbox hb; have BK619 := Bk.mk (hbox); have GE619 := eB w hg; replace HB := bS w hb; clear hb hbox hg) | ((with_reducible refine gate_dst (N := 5) rfl ?_); refine bxE 5 47 #[.int .i64 a1_0, .int .i64 a1_1, .int .i64 a1_2, .int .i64 a1_3, .int .i64 a1_4, .int .i64 a1_5, .int .i64 a1_6, .int .i64 a1_7, .slice A1_8 l1_8.length c1_8] (by rfl) (by rfl) (by first | (go_simp; done) | (go_simp; rfl)) ?_; intro gb620 hg w11 hbox hb; have BK620 := Bk.mk (hbox); have GE620 := eB w hg; have NB619_620 := nB gb619 hg; replace BK619 := kB gb619 hb; replace HB := bS w hb; clear hb hbox hg) | ((with_reducible refine gate_dst (N := 8) rfl ?_); refine bxE 8 40 #[.int .i64 0, .int .i64 0] (by rfl) (by rfl) (by first | (go_simp; done) | (go_simp; rfl)) ?_; intro gb621 hg w12 hbox hb; have BK621 := Bk.mk (hbox); have GE621 := eB w hg; have NB619_621 := nB gb619 hg; have NB620_621 := nB gb620 hg; replace BK619 := kB gb619 hb; replace BK620 := kB gb620 hb; replace HB := bS w hb; clear hb hbox hg; obtain ⟨hnb13, hnc13⟩ := nn NB619_620; obtain ⟨hnb14, hnc14⟩ := nn NB619_621; obtain ⟨hcz15_0, hcz15_1, hcz15_2, hfz15_0, hfz15_1, hfz15_2⟩ := cz3 BK619; obtain ⟨hnb16, hnc16⟩ := nn NB620_621; obtain ⟨hcz17_0, hcz17_1, hcz17_2, hcz17_3, hcz17_4, hcz17_5, hcz17_6, hcz17_7, hcz17_8, hfz17_0, hfz17_1, hfz17_2, hfz17_3, hfz17_4, hfz17_5, hfz17_6, hfz17_7, hfz17_8⟩ := cz9 BK620) | ((with_reducible refine gate_callee (f := 83) rfl ?_); refine goesLM (some 17) rfl rfl Tryd.func83 (by kernel_rfl) rfl #[.agg #[.int .i64 a0_0, .int .i64 a0_1, .slice A0_2 l0_2.length c0_2], .agg #[.int .i64 a1_0, .int .i64 a1_1, .int .i64 a1_2, .int .i64 a1_3, .int .i64 a1_4, .int .i64 a1_5, .int .i64 a1_6, .int .i64 a1_7, .slice A1_8 l1_8.length c1_8], .int .i64 a2, .int .i64 a3] rfl (by rfl) ?_; (with_reducible refine (snowlineref01_weighed.calls k a0_0 a0_1 _ _ l0_2 a1_0 a1_1 a1_2 a1_3 a1_4 a1_5 a1_6 a1_7 _ _ l1_8 a2 a3 t622 _ ?side1 ?side2 ?side3 ?side4 A5.out).mono ?_); (case side1 => exact cP (Kd.C_below HR0_2.out HB.out)); (case side2 => exact HC0_2.out); (case side3 => exact cP (Kd.C_below HR1_8.out HB.out)); (case side4 => exact HC1_8.out); rintro e w18 ⟨rfl, hb⟩; refine ⟨_, rfl, ?_⟩; replace BK619 := kB gb619 hb; replace BK620 := kB gb620 hb; replace BK621 := kB gb621 hb; replace HB := bS w hb; (try clear hb); obtain ⟨hcz19_0, hcz19_1, hcz19_2, hfz19_0, hfz19_1, hfz19_2⟩ := cz3 BK619; obtain ⟨hcz20_0, hcz20_1, hcz20_2, hcz20_3, hcz20_4, hcz20_5, hcz20_6, hcz20_7, hcz20_8, hfz20_0, hfz20_1, hfz20_2, hfz20_3, hfz20_4, hfz20_5, hfz20_6, hfz20_7, hfz20_8⟩ := cz9 BK620) | ((with_reducible refine gate_callee (f := 84) rfl ?_); refine goesLM (some 26) rfl rfl Tryd.func84 (by kernel_rfl) rfl #[.agg #[.int .i64 a0_0, .int .i64 a0_1, .slice A0_2 l0_2.length c0_2], .agg #[.int .i64 a1_0, .int .i64 a1_1, .int .i64 a1_2, .int .i64 a1_3, .int .i64 a1_4, .int .i64 a1_5, .int .i64 a1_6, .int .i64 a1_7, .slice A1_8 l1_8.length c1_8], .int .i64 a3] rfl (by rfl) ?_; (with_reducible refine (snowlineref01_turns.calls k a0_0 a0_1 _ _ l0_2 a1_0 a1_1 a1_2 a1_3 a1_4 a1_5 a1_6 a1_7 _ _ l1_8 a3 t623 t624 true _ ?side1 ?side2 ?side3 ?side4 A7.out).mono ?_); (case side1 => exact cP (Kd.C_below HR0_2.out HB.out)); (case side2 => exact HC0_2.out); (case side3 => exact cP (Kd.C_below HR1_8.out HB.out)); (case side4 => exact HC1_8.out); rintro e w21 ⟨rfl, hb⟩; refine ⟨_, rfl, ?_⟩; replace BK619 := kB gb619 hb; replace BK620 := kB gb620 hb; replace BK621 := kB gb621 hb; replace HB := bS w hb; (try clear hb)) | ((with_reducible refine gate_dst (N := 11) rfl ?_); refine bxE 11 40 #[.int .i64 0, .int .i64 0] (by rfl) (by rfl) (by first | (go_simp; done) | (go_simp; rfl)) ?_; intro gb626 hg w22 hbox hb; have BK626 := Bk.mk (hbox); have GE626 := eB w hg; have NB619_626 := nB gb619 hg; have NB620_626 := nB gb620 hg; have NB621_626 := nB gb621 hg; replace BK619 := kB gb619 hb; replace BK620 := kB gb620 hb; replace BK621 := kB gb621 hb; replace HB := bS w hb; clear hb hbox hg; obtain ⟨hnc23, hnb23⟩ := nn NB619_626; obtain ⟨hnc24, hnb24⟩ := nn NB620_626; obtain ⟨hnc25, hnb25⟩ := nn NB621_626; obtain ⟨hcz26_0, hcz26_1, hfz26_0, hfz26_1⟩ := cz2 BK626; obtain ⟨hcz27_0, hcz27_1, hcz27_2, hcz27_3, hcz27_4, hcz27_5, hcz27_6, hcz27_7, hcz27_8, hfz27_0, hfz27_1, hfz27_2, hfz27_3, hfz27_4, hfz27_5, hfz27_6, hfz27_7, hfz27_8⟩ := cz9 BK620) | ((with_reducible refine gate_callee (f := 85) rfl ?_); refine goesLM (some 35) rfl rfl Tryd.func85 (by kernel_rfl) rfl #[.agg #[.int .i64 a1_0, .int .i64 a1_1, .int .i64 a1_2, .int .i64 a1_3, .int .i64 a1_4, .int .i64 a1_5, .int .i64 a1_6, .int .i64 a1_7, .slice A1_8 l1_8.length c1_8], .int .i64 a2, .agg #[.int .i64 t623, .int .i64 t624]] rfl (by rfl) ?_; (with_reducible refine (snowlineref01_core.calls a1_0 a1_1 a1_2 a1_3 a1_4 a1_5 a1_6 a1_7 _ _ l1_8 a2 t623 t624 t627 t628 _ ?side1 ?side2 A9.out).mono ?_); (case side1 => exact Kd.C_below HR1_8.out (bw w)); (case side2 => exact HC1_8.out); rintro e w28 ⟨rfl, hb⟩; refine ⟨_, rfl, ?_⟩; replace BK619 := kB gb619 hb; replace BK620 := kB gb620 hb; replace BK621 := kB gb621 hb; replace BK626 := kBo gb626 (.cells #[.int .i64 t623, .int .i64 t624] 40 (0, 0)) hb (by rfl); replace HB := bS w hb; (try clear hb); obtain ⟨hcz29_0, hcz29_1, hfz29_0, hfz29_1⟩ := cz2 BK621))
   all_goals (refine bodyPost_ret (results_ct rfl _ _ gb621 40 #[.int .i64 t627, .int .i64 t628] (0, 0) _ rfl (bko gb621 (by rfl)) Tryd.underlying40 rfl (by kernel_rfl)) rfl ?_; exact ⟨by first | rfl | (simp [errW_none, errW_some] <;> rfl) | (simp [*, errW_none, errW_some] <;> rfl), bw w⟩)
  ·
   replace c8 := Bool.eq_false_iff.mpr c8
   subst c8
   rw [if_neg (show ¬ (false = true) by decide)] at H
   simp only [Option.some.injEq, Prod.mk.injEq] at H
   obtain ⟨rfl, rfl, rfl⟩ := H
   go_enter Tryd.func28, Tryd.ntmps28
   go_wp2_with (first | ((with_reducible refine gate_dst (N := 4) rfl ?_); refine bxE 4 24 #[.int .i64 a0_0, .int .i64 a0_1, .slice A0_2 l0_2.length c0_2] (by rfl) (by rfl) (by first | (go_simp; done) | (go_simp; rfl)) ?_; intro gb619 hg w30 hbox hb; have BK619 := Bk.mk (hbox); have GE619 := eB w hg; replace HB := bS w hb; clear hb hbox hg) | ((with_reducible refine gate_dst (N := 5) rfl ?_); refine bxE 5 47 #[.int .i64 a1_0, .int .i64 a1_1, .int .i64 a1_2, .int .i64 a1_3, .int .i64 a1_4, .int .i64 a1_5, .int .i64 a1_6, .int .i64 a1_7, .slice A1_8 l1_8.length c1_8] (by rfl) (by rfl) (by first | (go_simp; done) | (go_simp; rfl)) ?_; intro gb620 hg w31 hbox hb; have BK620 := Bk.mk (hbox); have GE620 := eB w hg; have NB619_620 := nB gb619 hg; replace BK619 := kB gb619 hb; replace HB := bS w hb; clear hb hbox hg) | ((with_reducible refine gate_dst (N := 8) rfl ?_); refine bxE 8 40 #[.int .i64 0, .int .i64 0] (by rfl) (by rfl) (by first | (go_simp; done) | (go_simp; rfl)) ?_; intro gb621 hg w32 hbox hb; have BK621 := Bk.mk (hbox); have GE621 := eB w hg; have NB619_621 := nB gb619 hg; have NB620_621 := nB gb620 hg; replace BK619 := kB gb619 hb; replace BK620 := kB gb620 hb; replace HB := bS w hb; clear hb hbox hg; obtain ⟨hnb33, hnc33⟩ := nn NB619_620; obtain ⟨hnb34, hnc34⟩ := nn NB619_621; obtain ⟨hcz35_0, hcz35_1, hcz35_2, hfz35_0, hfz35_1, hfz35_2⟩ := cz3 BK619; obtain ⟨hnb36, hnc36⟩ := nn NB620_621; obtain ⟨hcz37_0, hcz37_1, hcz37_2, hcz37_3, hcz37_4, hcz37_5, hcz37_6, hcz37_7, hcz37_8, hfz37_0, hfz37_1, hfz37_2, hfz37_3, hfz37_4, hfz37_5, hfz37_6, hfz37_7, hfz37_8⟩ := cz9 BK620) | ((with_reducible refine gate_callee (f := 83) rfl ?_); refine goesLM (some 17) rfl rfl Tryd.func83 (by kernel_rfl) rfl #[.agg #[.int .i64 a0_0, .int .i64 a0_1, .slice A0_2 l0_2.length c0_2], .agg #[.int .i64 a1_0, .int .i64 a1_1, .int .i64 a1_2, .int .i64 a1_3, .int .i64 a1_4, .int .i64 a1_5, .int .i64 a1_6, .int .i64 a1_7, .slice A1_8 l1_8.length c1_8], .int .i64 a2, .int .i64 a3] rfl (by rfl) ?_; (with_reducible refine (snowlineref01_weighed.calls k a0_0 a0_1 _ _ l0_2 a1_0 a1_1 a1_2 a1_3 a1_4 a1_5 a1_6 a1_7 _ _ l1_8 a2 a3 t622 _ ?side1 ?side2 ?side3 ?side4 A5.out).mono ?_); (case side1 => exact cP (Kd.C_below HR0_2.out HB.out)); (case side2 => exact HC0_2.out); (case side3 => exact cP (Kd.C_below HR1_8.out HB.out)); (case side4 => exact HC1_8.out); rintro e w38 ⟨rfl, hb⟩; refine ⟨_, rfl, ?_⟩; replace BK619 := kB gb619 hb; replace BK620 := kB gb620 hb; replace BK621 := kB gb621 hb; replace HB := bS w hb; (try clear hb); obtain ⟨hcz39_0, hcz39_1, hcz39_2, hfz39_0, hfz39_1, hfz39_2⟩ := cz3 BK619; obtain ⟨hcz40_0, hcz40_1, hcz40_2, hcz40_3, hcz40_4, hcz40_5, hcz40_6, hcz40_7, hcz40_8, hfz40_0, hfz40_1, hfz40_2, hfz40_3, hfz40_4, hfz40_5, hfz40_6, hfz40_7, hfz40_8⟩ := cz9 BK620) | ((with_reducible refine gate_callee (f := 84) rfl ?_); refine goesLM (some 26) rfl rfl Tryd.func84 (by kernel_rfl) rfl #[.agg #[.int .i64 a0_0, .int .i64 a0_1, .slice A0_2 l0_2.length c0_2], .agg #[.int .i64 a1_0, .int .i64 a1_1, .int .i64 a1_2, .int .i64 a1_3, .int .i64 a1_4, .int .i64 a1_5, .int .i64 a1_6, .int .i64 a1_7, .slice A1_8 l1_8.length c1_8], .int .i64 a3] rfl (by rfl) ?_; (with_reducible refine (snowlineref01_turns.calls k a0_0 a0_1 _ _ l0_2 a1_0 a1_1 a1_2 a1_3 a1_4 a1_5 a1_6 a1_7 _ _ l1_8 a3 t623 t624 false _ ?side1 ?side2 ?side3 ?side4 A7.out).mono ?_); (case side1 => exact cP (Kd.C_below HR0_2.out HB.out)); (case side2 => exact HC0_2.out); (case side3 => exact cP (Kd.C_below HR1_8.out HB.out)); (case side4 => exact HC1_8.out); rintro e w41 ⟨rfl, hb⟩; refine ⟨_, rfl, ?_⟩; replace BK619 := kB gb619 hb; replace BK620 := kB gb620 hb; replace BK621 := kB gb621 hb; replace HB := bS w hb; (try clear hb)) | ((with_reducible refine gate_dst (N := 11) rfl ?_); refine bxE 11 40 #[.int .i64 0, .int .i64 0] (by rfl) (by rfl) (by first | (go_simp; done) | (go_simp; rfl)) ?_; intro gb626 hg w42 hbox hb; have BK626 := Bk.mk (hbox); have GE626 := eB w hg; have NB619_626 := nB gb619 hg; have NB620_626 := nB gb620 hg; have NB621_626 := nB gb621 hg; replace BK619 := kB gb619 hb; replace BK620 := kB gb620 hb; replace BK621 := kB gb621 hb; replace HB := bS w hb; clear hb hbox hg; obtain ⟨hnc43, hnb43⟩ := nn NB619_626; obtain ⟨hnc44, hnb44⟩ := nn NB620_626; obtain ⟨hnc45, hnb45⟩ := nn NB621_626; obtain ⟨hcz46_0, hcz46_1, hfz46_0, hfz46_1⟩ := cz2 BK626; obtain ⟨hcz47_0, hcz47_1, hfz47_0, hfz47_1⟩ := cz2 BK621))
   all_goals (refine bodyPost_ret (results_ct rfl _ _ gb621 40 #[.int .i64 0, .int .i64 0] (0, 0) _ rfl (bko gb621 (by rfl)) Tryd.underlying40 rfl (by kernel_rfl)) rfl ?_; exact ⟨by first | rfl | (simp [errW_none, errW_some] <;> rfl) | (simp [*, errW_none, errW_some] <;> rfl), bw w⟩)
 ·
  rw [if_neg c6] at H
  have c6b0 : (t622 == 0) = false := beq_eq_false_iff_ne.mpr c6
  have c6b1 : (t622 != 0) = true := bne_iff_ne.mpr c6
  simp only [Option.some.injEq, Prod.mk.injEq] at H
  obtain ⟨rfl, rfl, rfl⟩ := H
  go_enter Tryd.func28, Tryd.ntmps28
  go_wp2_with (first | ((with_reducible refine gate_dst (N := 4) rfl ?_); refine bxE 4 24 #[.int .i64 a0_0, .int .i64 a0_1, .slice A0_2 l0_2.length c0_2] (by rfl) (by rfl) (by first | (go_simp; done) | (go_simp; rfl)) ?_; intro gb619 hg w48 hbox hb; have BK619 := Bk.mk (hbox); have GE619 := eB w hg; replace HB := bS w hb; clear hb hbox hg) | ((with_reducible refine gate_dst (N := 5) rfl ?_); refine bxE 5 47 #[.int .i64 a1_0, .int .i64 a1_1, .int .i64 a1_2, .int .i64 a1_3, .int .i64 a1_4, .int .i64 a1_5, .int .i64 a1_6, .int .i64 a1_7, .slice A1_8 l1_8.length c1_8] (by rfl) (by rfl) (by first | (go_simp; done) | (go_simp; rfl)) ?_; intro gb620 hg w49 hbox hb; have BK620 := Bk.mk (hbox); have GE620 := eB w hg; have NB619_620 := nB gb619 hg; replace BK619 := kB gb619 hb; replace HB := bS w hb; clear hb hbox hg) | ((with_reducible refine gate_dst (N := 8) rfl ?_); refine bxE 8 40 #[.int .i64 0, .int .i64 0] (by rfl) (by rfl) (by first | (go_simp; done) | (go_simp; rfl)) ?_; intro gb621 hg w50 hbox hb; have BK621 := Bk.mk (hbox); have GE621 := eB w hg; have NB619_621 := nB gb619 hg; have NB620_621 := nB gb620 hg; replace BK619 := kB gb619 hb; replace BK620 := kB gb620 hb; replace HB := bS w hb; clear hb hbox hg; obtain ⟨hnb51, hnc51⟩ := nn NB619_620; obtain ⟨hnb52, hnc52⟩ := nn NB619_621; obtain ⟨hcz53_0, hcz53_1, hcz53_2, hfz53_0, hfz53_1, hfz53_2⟩ := cz3 BK619; obtain ⟨hnb54, hnc54⟩ := nn NB620_621; obtain ⟨hcz55_0, hcz55_1, hcz55_2, hcz55_3, hcz55_4, hcz55_5, hcz55_6, hcz55_7, hcz55_8, hfz55_0, hfz55_1, hfz55_2, hfz55_3, hfz55_4, hfz55_5, hfz55_6, hfz55_7, hfz55_8⟩ := cz9 BK620) | ((with_reducible refine gate_callee (f := 83) rfl ?_); refine goesLM (some 17) rfl rfl Tryd.func83 (by kernel_rfl) rfl #[.agg #[.int .i64 a0_0, .int .i64 a0_1, .slice A0_2 l0_2.length c0_2], .agg #[.int .i64 a1_0, .int .i64 a1_1, .int .i64 a1_2, .int .i64 a1_3, .int .i64 a1_4, .int .i64 a1_5, .int .i64 a1_6, .int .i64 a1_7, .slice A1_8 l1_8.length c1_8], .int .i64 a2, .int .i64 a3] rfl (by rfl) ?_; (with_reducible refine (snowlineref01_weighed.calls k a0_0 a0_1 _ _ l0_2 a1_0 a1_1 a1_2 a1_3 a1_4 a1_5 a1_6 a1_7 _ _ l1_8 a2 a3 t622 _ ?side1 ?side2 ?side3 ?side4 A5.out).mono ?_); (case side1 => exact cP (Kd.C_below HR0_2.out HB.out)); (case side2 => exact HC0_2.out); (case side3 => exact cP (Kd.C_below HR1_8.out HB.out)); (case side4 => exact HC1_8.out); rintro e w56 ⟨rfl, hb⟩; refine ⟨_, rfl, ?_⟩; replace BK619 := kB gb619 hb; replace BK620 := kB gb620 hb; replace BK621 := kB gb621 hb; replace HB := bS w hb; (try clear hb); obtain ⟨hcz57_0, hcz57_1, hfz57_0, hfz57_1⟩ := cz2 BK621))
  all_goals (refine bodyPost_ret (results_ct rfl _ _ gb621 40 #[.int .i64 0, .int .i64 0] (0, 0) _ rfl (bko gb621 (by rfl)) Tryd.underlying40 rfl (by kernel_rfl)) rfl ?_; exact ⟨by first | rfl | (simp [errW_none, errW_some] <;> rfl) | (simp [*, errW_none, errW_some] <;> rfl), bw w⟩)
def snowlineref01_rounded.f (a0_0 : Int) (a0_1 : Int) (a1 : Int) : Option (Int × Int) := if a1 = 0 then (none) else (some (wrap64 (Int.tdiv a0_0 a1), wrap64 (Int.tdiv (wrap64 ((wrap64 (a0_1 + a1)) - 1)) a1)))
def snowlineref01_rounded.T1 : Bool × List (List Nat × List Nat) := (true, [([], []), ([0], [0]), ([], []), ([1, 2], [1, 2]), ([], []), ([4], [4]), ([], []), ([5, 6], [5, 6]), ([7], [7]), ([], []), ([8, 9], [8, 9]), ([3, 10], [3, 10]), ([11, 0, 1, 2, 3, 4, 5, 6, 7, 8, 9, 10, 11], [11])])
def snowlineref01_rounded.B1 : List Nat := [0, 1, 0, 7, 0, 16, 0, 112, 240, 0, 1008, 2047, 4095]
theorem snowlineref01_rounded.tab1 : rtab .any (opsOf Tryd.f88 1) = snowlineref01_rounded.T1 := by kernel_rfl
theorem snowlineref01_rounded.bits1 : waitsOk snowlineref01_rounded.T1.2 snowlineref01_rounded.B1 = true := by kernel_rfl
set_option maxHeartbeats 8000000 in
set_option maxRecDepth 100000 in
theorem snowlineref01_rounded.calls (a0_0 : Int) (a0_1 : Int) (a1 : Int) (r1 : Int) (r2 : Int) (w : World) (h : snowlineref01_rounded.f a0_0 a0_1 a1 = some (r1, r2)) :
  Calls Tryd.prog 88 #[.agg #[.int .i64 a0_0, .int .i64 a0_1], .int .i64 a1] w fun e w' => e = .returned (.agg #[.int .i64 r1, .int .i64 r2]) ∧ Below w.heap.size w w' := by
 have hu40 := Tryd.underlying40
 have HB := Bw.mk (Below.refl w.heap.size w)
 have H : (if a1 = 0 then (none) else (some (wrap64 (Int.tdiv a0_0 a1), wrap64 (Int.tdiv (wrap64 ((wrap64 (a0_1 + a1)) - 1)) a1)))) = some (r1, r2) := h
 clear h
 by_cases c3 : a1 = 0
 ·
  rw [if_pos c3] at H
  exact absurd H (by simp)
 ·
  rw [if_neg c3] at H
  have c3b0 : (a1 == 0) = false := beq_eq_false_iff_ne.mpr c3
  have c3b1 : (a1 != 0) = true := bne_iff_ne.mpr c3
  simp only [Option.some.injEq, Prod.mk.injEq] at H
  obtain ⟨rfl, rfl⟩ := H
  go_enter Tryd.func88, Tryd.ntmps88
  try go_wp2_with (first | ((with_reducible refine gate_dst (N := 2) rfl ?_); refine bxE 2 40 #[.int .i64 a0_0, .int .i64 a0_1] (by rfl) (by rfl) (by first | (go_simp; done) | (go_simp; rfl)) ?_; intro gb629 hg w4 hbox hb; have BK629 := Bk.mk (hbox); have GE629 := eB w hg; replace HB := bS w hb; clear hb hbox hg) | ((with_reducible refine gate_dst (N := 4) rfl ?_); refine bxE 4 40 #[.int .i64 0, .int .i64 0] (by rfl) (by rfl) (by first | (go_simp; done) | (go_simp; rfl)) ?_; intro gb630 hg w5 hbox hb; have BK630 := Bk.mk (hbox); have GE630 := eB w hg; have NB629_630 := nB gb629 hg; replace BK629 := kB gb629 hb; replace HB := bS w hb; clear hb hbox hg))
  have n0_ := Bk.mk (blk_drew BK629.out)
  have n1_ := Bk.mk (blk_drew BK630.out)
  have n2_ := Bw.mk (below_drew1 HB.out)
  clear BK629 BK630 HB
  have BK629 := n0_
  have BK630 := n1_
  have HB := n2_
  clear n0_ n1_ n2_
  refine start_ (n := 13) (S := fun w' => w'.cell? ⟨gb629, 0, none⟩ = some (.int .i64 a0_0) ∧ w'.cell? ⟨gb629, 1, none⟩ = some (.int .i64 a0_1)) (ds := []) #[false, false, false, false, false, false, false, false, false, false, false, false, false] (by kernel_rfl) rfl rfl ⟨bc BK629 0, bc BK629 1⟩ (fun hHeld => ?_); refine with_tabW snowlineref01_rounded.tab1 snowlineref01_rounded.bits1 (fun HT_ HW_ => ?_)
  generalize w5.drew = w6 at BK629 BK630 HB hHeld ⊢
  refine pS 0 (some 5) rfl rfl (any_of HT_.out (by kernel_rfl)) (fun _ _ _ h => h) (by rfl) (fun w' => by go_simp; with_reducible rfl) (by simp only [Act.put, List.setIfInBounds_toArray, List.set_cons_zero, List.set_cons_succ, i64_w]; rfl) ?_
  refine pS 2 (some 7) rfl rfl (any_of HT_.out (by kernel_rfl)) (fun _ _ _ h => h) (by rfl) (fun w' => by go_simp; with_reducible rfl) (by simp only [Act.put, List.setIfInBounds_toArray, List.set_cons_zero, List.set_cons_succ, i64_w]; rfl) ?_
  refine pS 4 (some 9) rfl rfl (any_of HT_.out (by kernel_rfl)) (fun _ _ _ h => h) (by rfl) (fun w' => by go_simp; with_reducible rfl) (by simp only [Act.put, List.setIfInBounds_toArray, List.set_cons_zero, List.set_cons_succ, i64_w]; rfl) ?_
  refine pS 6 (some 11) rfl rfl (any_of HT_.out (by kernel_rfl)) (fun _ _ _ h => h) (by rfl) (fun w' => by go_simp; with_reducible rfl) (by simp only [Act.put, List.setIfInBounds_toArray, List.set_cons_zero, List.set_cons_succ, i64_w]; rfl) ?_
  refine pS 9 (some 14) rfl rfl (any_of HT_.out (by kernel_rfl)) (fun _ _ _ h => h) (by rfl) (fun w' => by go_simp; with_reducible rfl) (by simp only [Act.put, List.setIfInBounds_toArray, List.set_cons_zero, List.set_cons_succ, i64_w]; rfl) ?_
  refine tS 1 (some 6) rfl rfl (take_ofW HT_.out HW_.out (by kernel_rfl)) (fun _ _ _ h => h) (by rfl) (by rintro w' ⟨s0, s1⟩; go_simp; with_reducible rfl) hHeld (by simp only [Act.put, List.setIfInBounds_toArray, List.set_cons_zero, List.set_cons_succ, i64_w]; rfl) ?_
  refine pS 3 (some 8) rfl rfl (any_of HT_.out (by kernel_rfl)) (fun _ _ _ h => h) (by rfl) (fun w' => by go_simp; with_reducible rfl) (by simp only [Act.put, List.setIfInBounds_toArray, List.set_cons_zero, List.set_cons_succ, i64_w]; rfl) ?_
  refine tS 5 (some 10) rfl rfl (take_ofW HT_.out HW_.out (by kernel_rfl)) (fun _ _ _ h => h) (by rfl) (by rintro w' ⟨s0, s1⟩; go_simp; with_reducible rfl) hHeld (by simp only [Act.put, List.setIfInBounds_toArray, List.set_cons_zero, List.set_cons_succ, i64_w]; rfl) ?_
  refine pS 7 (some 12) rfl rfl (any_of HT_.out (by kernel_rfl)) (fun _ _ _ h => h) (by rfl) (fun w' => by go_simp; with_reducible rfl) (by simp only [Act.put, List.setIfInBounds_toArray, List.set_cons_zero, List.set_cons_succ, i64_w]; rfl) ?_
  refine pS 8 (some 13) rfl rfl (any_of HT_.out (by kernel_rfl)) (fun _ _ _ h => h) (by rfl) (fun w' => by go_simp; with_reducible rfl) (by simp only [Act.put, List.setIfInBounds_toArray, List.set_cons_zero, List.set_cons_succ, i64_w]; rfl) ?_
  refine pS 10 (some 15) rfl rfl (any_of HT_.out (by kernel_rfl)) (fun _ _ _ h => h) (by rfl) (fun w' => by go_simp; with_reducible rfl) (by simp only [Act.put, List.setIfInBounds_toArray, List.set_cons_zero, List.set_cons_succ, i64_w]; rfl) ?_
  refine pS 11 (some 16) rfl rfl (any_of HT_.out (by kernel_rfl)) (fun _ _ _ h => h) (by rfl) (fun w' => by go_simp; with_reducible rfl) (by simp only [Act.put, List.setIfInBounds_toArray, List.set_cons_zero, List.set_cons_succ, i64_w]; rfl) ?_
  refine one_ (i := 12) (N := none) #[true, true, true, true, true, true, true, true, true, true, true, true, true] rfl rfl (one_of HT_.out (by kernel_rfl)) (by decide) (fun K hK => ?_)
  have hs7 : w6.cell? ⟨gb630, 0, none⟩ = some (.int .i64 0) := bc BK630 0
  have hfs7 := blk_frozen BK630.out 0
  have hns7_0 := NB629_630.out
  have hms7_0 := NB629_630.out.symm
  have hs8 : w6.cell? ⟨gb630, 1, none⟩ = some (.int .i64 0) := bc BK630 1
  have hfs8 := blk_frozen BK630.out 1
  have hns8_0 := NB629_630.out
  have hms8_0 := NB629_630.out.symm
  refine skip_ (w1 := ?_) (by rfl) rfl ?_ ?_
  rotate_left
  ·
   go_simp
   rfl
  refine hK.out _ _ ⟨((cell_far (p := ⟨gb630, _, none⟩) NB629_630.out _).trans (((cell_far (p := ⟨gb630, _, none⟩) NB629_630.out _).trans (hHeld.1)))), ((cell_far (p := ⟨gb630, _, none⟩) NB629_630.out _).trans (((cell_far (p := ⟨gb630, _, none⟩) NB629_630.out _).trans (hHeld.2))))⟩ (fun hHeld => ?_)
  clear hK K
  refine done_ (done_of HT_.out (by kernel_rfl)) ?_
  try go_wp2
  all_goals (refine bodyPost_ret (results_cell_row rfl _ _ gb630 40 #[.int .i64 (wrap64 (Int.tdiv a0_0 a1)), .int .i64 (wrap64 (Int.tdiv (wrap64 ((wrap64 (a0_1 + a1)) - 1)) a1))] (0, 0) _ rfl (bko gb630 (by rfl)) Tryd.underlying40 rfl (by kernel_rfl)) rfl ?_; exact ⟨by first | rfl | (simp [errW_none, errW_some] <;> rfl) | (simp [*, errW_none, errW_some] <;> rfl), bw w⟩)
def snowlineref01_snow.f (a0_0 : Int) (a0_1 : Int) (a0_2 : Int) (a0_3 : Int) (a0_4 : Int) (a0_5 : Int) (a0_6 : Int) (a0_7 : Int) (l0_8 : List (S71)) (a1 : Int) (a2_0 : Int) (a2_1 : Int) : Option (Int × Int) := (snowlineref01_core.f a0_0 a0_1 a0_2 a0_3 a0_4 a0_5 a0_6 a0_7 l0_8 a1 a2_0 a2_1).bind fun bt634 => (if 0 ≤ a1 then (if a1 < (l0_8.length : Int) then (some (wrap64 ((wrap64 (20 * bt634.1)) + (wrap64 (((rd_T71 l0_8 a1).f3) * a0_5))), wrap64 ((wrap64 (20 * bt634.2)) + (wrap64 (20 * (wrap64 (((rd_T71 l0_8 a1).f3) * a0_5))))))) else (none)) else (none))
set_option maxHeartbeats 8000000 in
set_option maxRecDepth 100000 in
theorem snowlineref01_snow.calls (a0_0 : Int) (a0_1 : Int) (a0_2 : Int) (a0_3 : Int) (a0_4 : Int) (a0_5 : Int) (a0_6 : Int) (a0_7 : Int) (A0_8 : Option Addr) (c0_8 : Nat) (l0_8 : List (S71)) (a1 : Int) (a2_0 : Int) (a2_1 : Int) (r1 : Int) (r2 : Int) (w : World) (hr0_8 : Kd.C k71 w A0_8 l0_8.length l0_8) (hc0_8 : l0_8.length ≤ c0_8) (h : snowlineref01_snow.f a0_0 a0_1 a0_2 a0_3 a0_4 a0_5 a0_6 a0_7 l0_8 a1 a2_0 a2_1 = some (r1, r2)) :
  Calls Tryd.prog 89 #[.agg #[.int .i64 a0_0, .int .i64 a0_1, .int .i64 a0_2, .int .i64 a0_3, .int .i64 a0_4, .int .i64 a0_5, .int .i64 a0_6, .int .i64 a0_7, .slice A0_8 l0_8.length c0_8], .int .i64 a1, .agg #[.int .i64 a2_0, .int .i64 a2_1]] w fun e w' => e = .returned (.agg #[.int .i64 r1, .int .i64 r2]) ∧ Below w.heap.size w w' := by
 have hu47 := Tryd.underlying47
 have hu40 := Tryd.underlying40
 have HR0_8 := Aside0.mk (hr0_8)
 have HC0_8 := Aside0.mk (hc0_8)
 clear hr0_8 hc0_8
 have HB := Bw.mk (Below.refl w.heap.size w)
 have H : ((snowlineref01_core.f a0_0 a0_1 a0_2 a0_3 a0_4 a0_5 a0_6 a0_7 l0_8 a1 a2_0 a2_1).bind fun bt634 => (if 0 ≤ a1 then (if a1 < (l0_8.length : Int) then (some (wrap64 ((wrap64 (20 * bt634.1)) + (wrap64 (((rd_T71 l0_8 a1).f3) * a0_5))), wrap64 ((wrap64 (20 * bt634.2)) + (wrap64 (20 * (wrap64 (((rd_T71 l0_8 a1).f3) * a0_5))))))) else (none)) else (none))) = some (r1, r2) := h
 clear h
 replace H := Option.bind_eq_some_iff.mp H
 obtain ⟨⟨t634, t635⟩, A40, H⟩ := H
 have A4 := Aside0.mk (A40)
 clear A40
 by_cases c5 : 0 ≤ a1
 ·
  rw [if_pos c5] at H
  have c5b0 : decide (0 ≤ a1) = true := decide_eq_true c5
  clear c5
  by_cases c6 : a1 < (l0_8.length : Int)
  ·
   rw [if_pos c6] at H
   have c6b0 : decide (a1 < (l0_8.length : Int)) = true := decide_eq_true c6
   clear c6
   simp only [Option.some.injEq, Prod.mk.injEq] at H
   obtain ⟨rfl, rfl⟩ := H
   go_enter Tryd.func89, Tryd.ntmps89
   go_wp2_with (first | ((with_reducible refine gate_dst (N := 3) rfl ?_); refine bxE 3 47 #[.int .i64 a0_0, .int .i64 a0_1, .int .i64 a0_2, .int .i64 a0_3, .int .i64 a0_4, .int .i64 a0_5, .int .i64 a0_6, .int .i64 a0_7, .slice A0_8 l0_8.length c0_8] (by rfl) (by rfl) (by first | (go_simp; done) | (go_simp; rfl)) ?_; intro gb631 hg w7 hbox hb; have BK631 := Bk.mk (hbox); have GE631 := eB w hg; replace HB := bS w hb; clear hb hbox hg) | ((with_reducible refine gate_dst (N := 5) rfl ?_); refine bxE 5 40 #[.int .i64 a2_0, .int .i64 a2_1] (by rfl) (by rfl) (by first | (go_simp; done) | (go_simp; rfl)) ?_; intro gb632 hg w8 hbox hb; have BK632 := Bk.mk (hbox); have GE632 := eB w hg; have NB631_632 := nB gb631 hg; replace BK631 := kB gb631 hb; replace HB := bS w hb; clear hb hbox hg) | ((with_reducible refine gate_dst (N := 6) rfl ?_); refine bxE 6 40 #[.int .i64 0, .int .i64 0] (by rfl) (by rfl) (by first | (go_simp; done) | (go_simp; rfl)) ?_; intro gb633 hg w9 hbox hb; have BK633 := Bk.mk (hbox); have GE633 := eB w hg; have NB631_633 := nB gb631 hg; have NB632_633 := nB gb632 hg; replace BK631 := kB gb631 hb; replace BK632 := kB gb632 hb; replace HB := bS w hb; clear hb hbox hg; obtain ⟨hnb10, hnc10⟩ := nn NB631_632; obtain ⟨hnb11, hnc11⟩ := nn NB631_633; obtain ⟨hcz12_0, hcz12_1, hcz12_2, hcz12_3, hcz12_4, hcz12_5, hcz12_6, hcz12_7, hcz12_8, hfz12_0, hfz12_1, hfz12_2, hfz12_3, hfz12_4, hfz12_5, hfz12_6, hfz12_7, hfz12_8⟩ := cz9 BK631; obtain ⟨hnb13, hnc13⟩ := nn NB632_633; obtain ⟨hcz14_0, hcz14_1, hfz14_0, hfz14_1⟩ := cz2 BK632) | (go_at_call 85; (with_reducible refine (snowlineref01_core.calls a0_0 a0_1 a0_2 a0_3 a0_4 a0_5 a0_6 a0_7 _ _ l0_8 a1 a2_0 a2_1 t634 t635 _ ?side1 ?side2 A4.out).mono ?_); (case side1 => exact cP (Kd.C_below HR0_8.out HB.out)); (case side2 => exact HC0_8.out); rintro e w15 ⟨rfl, hb⟩; replace BK631 := kB gb631 hb; replace BK632 := kB gb632 hb; replace BK633 := kB gb633 hb; replace HB := bS w hb; (try clear hb)) | ((with_reducible refine gate_dst (N := 7) rfl ?_); refine bxE 7 40 #[.int .i64 0, .int .i64 0] (by rfl) (by rfl) (by first | (go_simp; done) | (go_simp; rfl)) ?_; intro gb636 hg w16 hbox hb; have BK636 := Bk.mk (hbox); have GW636 := eB w hg; have GE636 := eB w hg; have NB631_636 := nB gb631 hg; have NB632_636 := nB gb632 hg; have NB633_636 := nB gb633 hg; replace BK631 := kB gb631 hb; replace BK632 := kB gb632 hb; replace BK633 := kB gb633 hb; replace HB := bS w hb; clear hb hbox hg; obtain ⟨hnc17, hnb17⟩ := nn NB631_636; obtain ⟨hnc18, hnb18⟩ := nn NB632_636; obtain ⟨hnc19, hnb19⟩ := nn NB633_636; obtain ⟨hcz20_0, hcz20_1, hfz20_0, hfz20_1⟩ := cz2 BK636; obtain ⟨hcz21_0, hcz21_1, hcz21_2, hcz21_3, hcz21_4, hcz21_5, hcz21_6, hcz21_7, hcz21_8, hfz21_0, hfz21_1, hfz21_2, hfz21_3, hfz21_4, hfz21_5, hfz21_6, hfz21_7, hfz21_8⟩ := cz9 BK631; have p637 : 0 ≤ (a1 : Int) := of_decide_eq_true (by first | (with_reducible assumption) | assumption); have q637 : a1 < (l0_8.length : Int) := of_decide_eq_true (by first | (with_reducible assumption) | assumption); obtain ⟨ad637, e637, hx637_0, hx637_1, hx637_2, hx637_3, hx637_4⟩ := at_T71 HR0_8.out a1 p637 q637; cases e637; have hn637_0 : ad637.block ≠ gb636 := Nat.ne_of_lt (Nat.lt_of_lt_of_le (by have := World.block_lt_of_cell? _ _ hx637_0; first | rwa [add_block] at this | exact this) GW636.out); have hn637_1 : ad637.block ≠ gb636 := Nat.ne_of_lt (Nat.lt_of_lt_of_le (by have := World.block_lt_of_cell? _ _ hx637_0; first | rwa [add_block] at this | exact this) GW636.out); replace hx637_0 := cB HB hx637_0; replace hx637_1 := cB HB hx637_1; replace hx637_2 := cB HB hx637_2; replace hx637_3 := cB HB hx637_3; replace hx637_4 := cB HB hx637_4; replace hx637_0 := (cell_far (p := ⟨gb636, 0, none⟩) (by first | (rw [add_block]; exact hn637_0) | (show (Addr.add _ _).block ≠ _; rw [add_block]; exact hn637_0) | exact hn637_0) (.int .i64 t634)).trans hx637_0; replace hx637_1 := (cell_far (p := ⟨gb636, 0, none⟩) (by first | (rw [add_block]; exact hn637_0) | (show (Addr.add _ _).block ≠ _; rw [add_block]; exact hn637_0) | exact hn637_0) (.int .i64 t634)).trans hx637_1; replace hx637_2 := (cell_far (p := ⟨gb636, 0, none⟩) (by first | (rw [add_block]; exact hn637_0) | (show (Addr.add _ _).block ≠ _; rw [add_block]; exact hn637_0) | exact hn637_0) (.int .i64 t634)).trans hx637_2; replace hx637_3 := (cell_far (p := ⟨gb636, 0, none⟩) (by first | (rw [add_block]; exact hn637_0) | (show (Addr.add _ _).block ≠ _; rw [add_block]; exact hn637_0) | exact hn637_0) (.int .i64 t634)).trans hx637_3; replace hx637_4 := (cell_far (p := ⟨gb636, 0, none⟩) (by first | (rw [add_block]; exact hn637_0) | (show (Addr.add _ _).block ≠ _; rw [add_block]; exact hn637_0) | exact hn637_0) (.int .i64 t634)).trans hx637_4; replace hx637_0 := (cell_far (p := ⟨gb636, 1, none⟩) (by first | (rw [add_block]; exact hn637_1) | (show (Addr.add _ _).block ≠ _; rw [add_block]; exact hn637_1) | exact hn637_1) (.int .i64 t635)).trans hx637_0; replace hx637_1 := (cell_far (p := ⟨gb636, 1, none⟩) (by first | (rw [add_block]; exact hn637_1) | (show (Addr.add _ _).block ≠ _; rw [add_block]; exact hn637_1) | exact hn637_1) (.int .i64 t635)).trans hx637_1; replace hx637_2 := (cell_far (p := ⟨gb636, 1, none⟩) (by first | (rw [add_block]; exact hn637_1) | (show (Addr.add _ _).block ≠ _; rw [add_block]; exact hn637_1) | exact hn637_1) (.int .i64 t635)).trans hx637_2; replace hx637_3 := (cell_far (p := ⟨gb636, 1, none⟩) (by first | (rw [add_block]; exact hn637_1) | (show (Addr.add _ _).block ≠ _; rw [add_block]; exact hn637_1) | exact hn637_1) (.int .i64 t635)).trans hx637_3; replace hx637_4 := (cell_far (p := ⟨gb636, 1, none⟩) (by first | (rw [add_block]; exact hn637_1) | (show (Addr.add _ _).block ≠ _; rw [add_block]; exact hn637_1) | exact hn637_1) (.int .i64 t635)).trans hx637_4; (try have hy637_0 := fun (n_ : Nat) => (show ((((w16.drewN n_).setCell ⟨gb636, 0, none⟩ (.int .i64 t634)).setCell ⟨gb636, 1, none⟩ (.int .i64 t635))).cell? _ = some _ from hx637_0)); (try have hy637_1 := fun (n_ : Nat) => (show ((((w16.drewN n_).setCell ⟨gb636, 0, none⟩ (.int .i64 t634)).setCell ⟨gb636, 1, none⟩ (.int .i64 t635))).cell? _ = some _ from hx637_1)); (try have hy637_2 := fun (n_ : Nat) => (show ((((w16.drewN n_).setCell ⟨gb636, 0, none⟩ (.int .i64 t634)).setCell ⟨gb636, 1, none⟩ (.int .i64 t635))).cell? _ = some _ from hx637_2)); (try have hy637_3 := fun (n_ : Nat) => (show ((((w16.drewN n_).setCell ⟨gb636, 0, none⟩ (.int .i64 t634)).setCell ⟨gb636, 1, none⟩ (.int .i64 t635))).cell? _ = some _ from hx637_3)); (try have hy637_4 := fun (n_ : Nat) => (show ((((w16.drewN n_).setCell ⟨gb636, 0, none⟩ (.int .i64 t634)).setCell ⟨gb636, 1, none⟩ (.int .i64 t635))).cell? _ = some _ from hx637_4)); clear hn637_0 hn637_1; replace p637 := eq_true p637; replace q637 := eq_true q637; obtain ⟨hcz22_0, hcz22_1, hfz22_0, hfz22_1⟩ := cz2 BK633))
   repeat (go_quiet (first | ((with_reducible refine gate_dst (N := 3) rfl ?_); refine bxE 3 47 #[.int .i64 a0_0, .int .i64 a0_1, .int .i64 a0_2, .int .i64 a0_3, .int .i64 a0_4, .int .i64 a0_5, .int .i64 a0_6, .int .i64 a0_7, .slice A0_8 l0_8.length c0_8] (by rfl) (by rfl) (by first | (go_simp; done) | (go_simp; rfl)) ?_; intro gb631 hg w7 hbox hb; have BK631 := Bk.mk (hbox); have GE631 := eB w hg; replace HB := bS w hb; clear hb hbox hg) | ((with_reducible refine gate_dst (N := 5) rfl ?_); refine bxE 5 40 #[.int .i64 a2_0, .int .i64 a2_1] (by rfl) (by rfl) (by first | (go_simp; done) | (go_simp; rfl)) ?_; intro gb632 hg w8 hbox hb; have BK632 := Bk.mk (hbox); have GE632 := eB w hg; have NB631_632 := nB gb631 hg; replace BK631 := kB gb631 hb; replace HB := bS w hb; clear hb hbox hg) | ((with_reducible refine gate_dst (N := 6) rfl ?_); refine bxE 6 40 #[.int .i64 0, .int .i64 0] (by rfl) (by rfl) (by first | (go_simp; done) | (go_simp; rfl)) ?_; intro gb633 hg w9 hbox hb; have BK633 := Bk.mk (hbox); have GE633 := eB w hg; have NB631_633 := nB gb631 hg; have NB632_633 := nB gb632 hg; replace BK631 := kB gb631 hb; replace BK632 := kB gb632 hb; replace HB := bS w hb; clear hb hbox hg; obtain ⟨hnb10, hnc10⟩ := nn NB631_632; obtain ⟨hnb11, hnc11⟩ := nn NB631_633; obtain ⟨hcz12_0, hcz12_1, hcz12_2, hcz12_3, hcz12_4, hcz12_5, hcz12_6, hcz12_7, hcz12_8, hfz12_0, hfz12_1, hfz12_2, hfz12_3, hfz12_4, hfz12_5, hfz12_6, hfz12_7, hfz12_8⟩ := cz9 BK631; obtain ⟨hnb13, hnc13⟩ := nn NB632_633; obtain ⟨hcz14_0, hcz14_1, hfz14_0, hfz14_1⟩ := cz2 BK632) | (go_at_call 85; (with_reducible refine (snowlineref01_core.calls a0_0 a0_1 a0_2 a0_3 a0_4 a0_5 a0_6 a0_7 _ _ l0_8 a1 a2_0 a2_1 t634 t635 _ ?side1 ?side2 A4.out).mono ?_); (case side1 => exact cP (Kd.C_below HR0_8.out HB.out)); (case side2 => exact HC0_8.out); rintro e w15 ⟨rfl, hb⟩; replace BK631 := kB gb631 hb; replace BK632 := kB gb632 hb; replace BK633 := kB gb633 hb; replace HB := bS w hb; (try clear hb)) | ((with_reducible refine gate_dst (N := 7) rfl ?_); refine bxE 7 40 #[.int .i64 0, .int .i64 0] (by rfl) (by rfl) (by first | (go_simp; done) | (go_simp; rfl)) ?_; intro gb636 hg w16 hbox hb; have BK636 := Bk.mk (hbox); have GW636 := eB w hg; have GE636 := eB w hg; have NB631_636 := nB gb631 hg; have NB632_636 := nB gb632 hg; have NB633_636 := nB gb633 hg; replace BK631 := kB gb631 hb; replace BK632 := kB gb632 hb; replace BK633 := kB gb633 hb; replace HB := bS w hb; clear hb hbox hg; obtain ⟨hnc17, hnb17⟩ := nn NB631_636; obtain ⟨hnc18, hnb18⟩ := nn NB632_636; obtain ⟨hnc19, hnb19⟩ := nn NB633_636; obtain ⟨hcz20_0, hcz20_1, hfz20_0, hfz20_1⟩ := cz2 BK636; obtain ⟨hcz21_0, hcz21_1, hcz21_2, hcz21_3, hcz21_4, hcz21_5, hcz21_6, hcz21_7, hcz21_8, hfz21_0, hfz21_1, hfz21_2, hfz21_3, hfz21_4, hfz21_5, hfz21_6, hfz21_7, hfz21_8⟩ := cz9 BK631; have p637 : 0 ≤ (a1 : Int) := of_decide_eq_true (by first | (with_reducible assumption) | assumption); have q637 : a1 < (l0_8.length : Int) := of_decide_eq_true (by first | (with_reducible assumption) | assumption); obtain ⟨ad637, e637, hx637_0, hx637_1, hx637_2, hx637_3, hx637_4⟩ := at_T71 HR0_8.out a1 p637 q637; cases e637; have hn637_0 : ad637.block ≠ gb636 := Nat.ne_of_lt (Nat.lt_of_lt_of_le (by have := World.block_lt_of_cell? _ _ hx637_0; first | rwa [add_block] at this | exact this) GW636.out); have hn637_1 : ad637.block ≠ gb636 := Nat.ne_of_lt (Nat.lt_of_lt_of_le (by have := World.block_lt_of_cell? _ _ hx637_0; first | rwa [add_block] at this | exact this) GW636.out); replace hx637_0 := cB HB hx637_0; replace hx637_1 := cB HB hx637_1; replace hx637_2 := cB HB hx637_2; replace hx637_3 := cB HB hx637_3; replace hx637_4 := cB HB hx637_4; replace hx637_0 := (cell_far (p := ⟨gb636, 0, none⟩) (by first | (rw [add_block]; exact hn637_0) | (show (Addr.add _ _).block ≠ _; rw [add_block]; exact hn637_0) | exact hn637_0) (.int .i64 t634)).trans hx637_0; replace hx637_1 := (cell_far (p := ⟨gb636, 0, none⟩) (by first | (rw [add_block]; exact hn637_0) | (show (Addr.add _ _).block ≠ _; rw [add_block]; exact hn637_0) | exact hn637_0) (.int .i64 t634)).trans hx637_1; replace hx637_2 := (cell_far (p := ⟨gb636, 0, none⟩) (by first | (rw [add_block]; exact hn637_0) | (show (Addr.add _ _).block ≠ _; rw [add_block]; exact hn637_0) | exact hn637_0) (.int .i64 t634)).trans hx637_2; replace hx637_3 := (cell_far (p := ⟨gb636, 0, none⟩) (by first | (rw [add_block]; exact hn637_0) | (show (Addr.add _ _).block ≠ _; rw [add_block]; exact hn637_0) | exact hn637_0) (.int .i64 t634)).trans hx637_3; replace hx637_4 := (cell_far (p := ⟨gb636, 0, none⟩) (by first | (rw [add_block]; exact hn637_0) | (show (Addr.add _ _).block ≠ _; rw [add_block]; exact hn637_0) | exact hn637_0) (.int .i64 t634)).trans hx637_4; replace hx637_0 := (cell_far (p := ⟨gb636, 1, none⟩) (by first | (rw [add_block]; exact hn637_1) | (show (Addr.add _ _).block ≠ _; rw [add_block]; exact hn637_1) | exact hn637_1) (.int .i64 t635)).trans hx637_0; replace hx637_1 := (cell_far (p := ⟨gb636, 1, none⟩) (by first | (rw [add_block]; exact hn637_1) | (show (Addr.add _ _).block ≠ _; rw [add_block]; exact hn637_1) | exact hn637_1) (.int .i64 t635)).trans hx637_1; replace hx637_2 := (cell_far (p := ⟨gb636, 1, none⟩) (by first | (rw [add_block]; exact hn637_1) | (show (Addr.add _ _).block ≠ _; rw [add_block]; exact hn637_1) | exact hn637_1) (.int .i64 t635)).trans hx637_2; replace hx637_3 := (cell_far (p := ⟨gb636, 1, none⟩) (by first | (rw [add_block]; exact hn637_1) | (show (Addr.add _ _).block ≠ _; rw [add_block]; exact hn637_1) | exact hn637_1) (.int .i64 t635)).trans hx637_3; replace hx637_4 := (cell_far (p := ⟨gb636, 1, none⟩) (by first | (rw [add_block]; exact hn637_1) | (show (Addr.add _ _).block ≠ _; rw [add_block]; exact hn637_1) | exact hn637_1) (.int .i64 t635)).trans hx637_4; (try have hy637_0 := fun (n_ : Nat) => (show ((((w16.drewN n_).setCell ⟨gb636, 0, none⟩ (.int .i64 t634)).setCell ⟨gb636, 1, none⟩ (.int .i64 t635))).cell? _ = some _ from hx637_0)); (try have hy637_1 := fun (n_ : Nat) => (show ((((w16.drewN n_).setCell ⟨gb636, 0, none⟩ (.int .i64 t634)).setCell ⟨gb636, 1, none⟩ (.int .i64 t635))).cell? _ = some _ from hx637_1)); (try have hy637_2 := fun (n_ : Nat) => (show ((((w16.drewN n_).setCell ⟨gb636, 0, none⟩ (.int .i64 t634)).setCell ⟨gb636, 1, none⟩ (.int .i64 t635))).cell? _ = some _ from hx637_2)); (try have hy637_3 := fun (n_ : Nat) => (show ((((w16.drewN n_).setCell ⟨gb636, 0, none⟩ (.int .i64 t634)).setCell ⟨gb636, 1, none⟩ (.int .i64 t635))).cell? _ = some _ from hx637_3)); (try have hy637_4 := fun (n_ : Nat) => (show ((((w16.drewN n_).setCell ⟨gb636, 0, none⟩ (.int .i64 t634)).setCell ⟨gb636, 1, none⟩ (.int .i64 t635))).cell? _ = some _ from hx637_4)); clear hn637_0 hn637_1; replace p637 := eq_true p637; replace q637 := eq_true q637; obtain ⟨hcz22_0, hcz22_1, hfz22_0, hfz22_1⟩ := cz2 BK633)); try go_wp2_with (first | ((with_reducible refine gate_dst (N := 3) rfl ?_); refine bxE 3 47 #[.int .i64 a0_0, .int .i64 a0_1, .int .i64 a0_2, .int .i64 a0_3, .int .i64 a0_4, .int .i64 a0_5, .int .i64 a0_6, .int .i64 a0_7, .slice A0_8 l0_8.length c0_8] (by rfl) (by rfl) (by first | (go_simp; done) | (go_simp; rfl)) ?_; intro gb631 hg w7 hbox hb; have BK631 := Bk.mk (hbox); have GE631 := eB w hg; replace HB := bS w hb; clear hb hbox hg) | ((with_reducible refine gate_dst (N := 5) rfl ?_); refine bxE 5 40 #[.int .i64 a2_0, .int .i64 a2_1] (by rfl) (by rfl) (by first | (go_simp; done) | (go_simp; rfl)) ?_; intro gb632 hg w8 hbox hb; have BK632 := Bk.mk (hbox); have GE632 := eB w hg; have NB631_632 := nB gb631 hg; replace BK631 := kB gb631 hb; replace HB := bS w hb; clear hb hbox hg) | ((with_reducible refine gate_dst (N := 6) rfl ?_); refine bxE 6 40 #[.int .i64 0, .int .i64 0] (by rfl) (by rfl) (by first | (go_simp; done) | (go_simp; rfl)) ?_; intro gb633 hg w9 hbox hb; have BK633 := Bk.mk (hbox); have GE633 := eB w hg; have NB631_633 := nB gb631 hg; have NB632_633 := nB gb632 hg; replace BK631 := kB gb631 hb; replace BK632 := kB gb632 hb; replace HB := bS w hb; clear hb hbox hg; obtain ⟨hnb10, hnc10⟩ := nn NB631_632; obtain ⟨hnb11, hnc11⟩ := nn NB631_633; obtain ⟨hcz12_0, hcz12_1, hcz12_2, hcz12_3, hcz12_4, hcz12_5, hcz12_6, hcz12_7, hcz12_8, hfz12_0, hfz12_1, hfz12_2, hfz12_3, hfz12_4, hfz12_5, hfz12_6, hfz12_7, hfz12_8⟩ := cz9 BK631; obtain ⟨hnb13, hnc13⟩ := nn NB632_633; obtain ⟨hcz14_0, hcz14_1, hfz14_0, hfz14_1⟩ := cz2 BK632) | (go_at_call 85; (with_reducible refine (snowlineref01_core.calls a0_0 a0_1 a0_2 a0_3 a0_4 a0_5 a0_6 a0_7 _ _ l0_8 a1 a2_0 a2_1 t634 t635 _ ?side1 ?side2 A4.out).mono ?_); (case side1 => exact cP (Kd.C_below HR0_8.out HB.out)); (case side2 => exact HC0_8.out); rintro e w15 ⟨rfl, hb⟩; replace BK631 := kB gb631 hb; replace BK632 := kB gb632 hb; replace BK633 := kB gb633 hb; replace HB := bS w hb; (try clear hb)) | ((with_reducible refine gate_dst (N := 7) rfl ?_); refine bxE 7 40 #[.int .i64 0, .int .i64 0] (by rfl) (by rfl) (by first | (go_simp; done) | (go_simp; rfl)) ?_; intro gb636 hg w16 hbox hb; have BK636 := Bk.mk (hbox); have GW636 := eB w hg; have GE636 := eB w hg; have NB631_636 := nB gb631 hg; have NB632_636 := nB gb632 hg; have NB633_636 := nB gb633 hg; replace BK631 := kB gb631 hb; replace BK632 := kB gb632 hb; replace BK633 := kB gb633 hb; replace HB := bS w hb; clear hb hbox hg; obtain ⟨hnc17, hnb17⟩ := nn NB631_636; obtain ⟨hnc18, hnb18⟩ := nn NB632_636; obtain ⟨hnc19, hnb19⟩ := nn NB633_636; obtain ⟨hcz20_0, hcz20_1, hfz20_0, hfz20_1⟩ := cz2 BK636; obtain ⟨hcz21_0, hcz21_1, hcz21_2, hcz21_3, hcz21_4, hcz21_5, hcz21_6, hcz21_7, hcz21_8, hfz21_0, hfz21_1, hfz21_2, hfz21_3, hfz21_4, hfz21_5, hfz21_6, hfz21_7, hfz21_8⟩ := cz9 BK631; have p637 : 0 ≤ (a1 : Int) := of_decide_eq_true (by first | (with_reducible assumption) | assumption); have q637 : a1 < (l0_8.length : Int) := of_decide_eq_true (by first | (with_reducible assumption) | assumption); obtain ⟨ad637, e637, hx637_0, hx637_1, hx637_2, hx637_3, hx637_4⟩ := at_T71 HR0_8.out a1 p637 q637; cases e637; have hn637_0 : ad637.block ≠ gb636 := Nat.ne_of_lt (Nat.lt_of_lt_of_le (by have := World.block_lt_of_cell? _ _ hx637_0; first | rwa [add_block] at this | exact this) GW636.out); have hn637_1 : ad637.block ≠ gb636 := Nat.ne_of_lt (Nat.lt_of_lt_of_le (by have := World.block_lt_of_cell? _ _ hx637_0; first | rwa [add_block] at this | exact this) GW636.out); replace hx637_0 := cB HB hx637_0; replace hx637_1 := cB HB hx637_1; replace hx637_2 := cB HB hx637_2; replace hx637_3 := cB HB hx637_3; replace hx637_4 := cB HB hx637_4; replace hx637_0 := (cell_far (p := ⟨gb636, 0, none⟩) (by first | (rw [add_block]; exact hn637_0) | (show (Addr.add _ _).block ≠ _; rw [add_block]; exact hn637_0) | exact hn637_0) (.int .i64 t634)).trans hx637_0; replace hx637_1 := (cell_far (p := ⟨gb636, 0, none⟩) (by first | (rw [add_block]; exact hn637_0) | (show (Addr.add _ _).block ≠ _; rw [add_block]; exact hn637_0) | exact hn637_0) (.int .i64 t634)).trans hx637_1; replace hx637_2 := (cell_far (p := ⟨gb636, 0, none⟩) (by first | (rw [add_block]; exact hn637_0) | (show (Addr.add _ _).block ≠ _; rw [add_block]; exact hn637_0) | exact hn637_0) (.int .i64 t634)).trans hx637_2; replace hx637_3 := (cell_far (p := ⟨gb636, 0, none⟩) (by first | (rw [add_block]; exact hn637_0) | (show (Addr.add _ _).block ≠ _; rw [add_block]; exact hn637_0) | exact hn637_0) (.int .i64 t634)).trans hx637_3; replace hx637_4 := (cell_far (p := ⟨gb636, 0, none⟩) (by first | (rw [add_block]; exact hn637_0) | (show (Addr.add _ _).block ≠ _; rw [add_block]; exact hn637_0) | exact hn637_0) (.int .i64 t634)).trans hx637_4; replace hx637_0 := (cell_far (p := ⟨gb636, 1, none⟩) (by first | (rw [add_block]; exact hn637_1) | (show (Addr.add _ _).block ≠ _; rw [add_block]; exact hn637_1) | exact hn637_1) (.int .i64 t635)).trans hx637_0; replace hx637_1 := (cell_far (p := ⟨gb636, 1, none⟩) (by first | (rw [add_block]; exact hn637_1) | (show (Addr.add _ _).block ≠ _; rw [add_block]; exact hn637_1) | exact hn637_1) (.int .i64 t635)).trans hx637_1; replace hx637_2 := (cell_far (p := ⟨gb636, 1, none⟩) (by first | (rw [add_block]; exact hn637_1) | (show (Addr.add _ _).block ≠ _; rw [add_block]; exact hn637_1) | exact hn637_1) (.int .i64 t635)).trans hx637_2; replace hx637_3 := (cell_far (p := ⟨gb636, 1, none⟩) (by first | (rw [add_block]; exact hn637_1) | (show (Addr.add _ _).block ≠ _; rw [add_block]; exact hn637_1) | exact hn637_1) (.int .i64 t635)).trans hx637_3; replace hx637_4 := (cell_far (p := ⟨gb636, 1, none⟩) (by first | (rw [add_block]; exact hn637_1) | (show (Addr.add _ _).block ≠ _; rw [add_block]; exact hn637_1) | exact hn637_1) (.int .i64 t635)).trans hx637_4; (try have hy637_0 := fun (n_ : Nat) => (show ((((w16.drewN n_).setCell ⟨gb636, 0, none⟩ (.int .i64 t634)).setCell ⟨gb636, 1, none⟩ (.int .i64 t635))).cell? _ = some _ from hx637_0)); (try have hy637_1 := fun (n_ : Nat) => (show ((((w16.drewN n_).setCell ⟨gb636, 0, none⟩ (.int .i64 t634)).setCell ⟨gb636, 1, none⟩ (.int .i64 t635))).cell? _ = some _ from hx637_1)); (try have hy637_2 := fun (n_ : Nat) => (show ((((w16.drewN n_).setCell ⟨gb636, 0, none⟩ (.int .i64 t634)).setCell ⟨gb636, 1, none⟩ (.int .i64 t635))).cell? _ = some _ from hx637_2)); (try have hy637_3 := fun (n_ : Nat) => (show ((((w16.drewN n_).setCell ⟨gb636, 0, none⟩ (.int .i64 t634)).setCell ⟨gb636, 1, none⟩ (.int .i64 t635))).cell? _ = some _ from hx637_3)); (try have hy637_4 := fun (n_ : Nat) => (show ((((w16.drewN n_).setCell ⟨gb636, 0, none⟩ (.int .i64 t634)).setCell ⟨gb636, 1, none⟩ (.int .i64 t635))).cell? _ = some _ from hx637_4)); clear hn637_0 hn637_1; replace p637 := eq_true p637; replace q637 := eq_true q637; obtain ⟨hcz22_0, hcz22_1, hfz22_0, hfz22_1⟩ := cz2 BK633)))
   all_goals (refine bodyPost_ret (results_cell_row rfl _ _ gb633 40 #[.int .i64 (wrap64 ((wrap64 (20 * t634)) + (wrap64 (((rd_T71 l0_8 a1).f3) * a0_5)))), .int .i64 (wrap64 ((wrap64 (20 * t635)) + (wrap64 (20 * (wrap64 (((rd_T71 l0_8 a1).f3) * a0_5))))))] (0, 0) _ rfl (bko gb633 (by rfl)) Tryd.underlying40 rfl (by kernel_rfl)) rfl ?_; exact ⟨by first | rfl | (simp [errW_none, errW_some] <;> rfl) | (simp [*, errW_none, errW_some] <;> rfl), bw w⟩)
  ·
   rw [if_neg c6] at H
   exact absurd H (by simp)
 ·
  rw [if_neg c5] at H
  exact absurd H (by simp)
end Go.Proofs.YtapijkdgkajoeaaDoor.PF
end
