/- For every input, with the program's own tables laid as its text lays them, the law CourseDrifts returns true and leaves its arguments as they read; no condition. Part 5 of 5. -/
import Derived.Test.YtapijkdgkajoeaaDoorDrD
import Derived.Shelf.Strings.Builder1
import Derived.Lib.AppendIntMem
import Derived.Shelf.Small.Wraps
import Derived.Shelf.Strings.BuilderF
import Derived.Shelf.Strings.BuilderK
import Derived.Shelf.Strconv.Itoa0
import Derived.Shelf.Strconv.Itoa1
import Derived.Shelf.LaysM
import Derived.Shelf.Strconv.Itoa2
import Derived.Shelf.Strings.BuilderCap
import Derived.Shelf.Slices.Turned
import Derived.Shelf.Slices.Reverse
import Derived.Shelf.Slices.Equal
import Derived.Ground.Names2Prog
import Derived.Shelf.Slices.Clone
import Derived.Shelf.Slices.SearchI
import Derived.Shelf.Slices.Cells
import Derived.Shelf.Slices.Empties
import Derived.Shelf.Slices.Empties2
import Derived.Test.YtapijkdgkajoeaaDoorCards
import Derived.Test.YtapijkdgkajoeaaDoorTie
import Derived.Stop.Joined
import Derived.SevenTiedAt
section
namespace Go.Proofs.YtapijkdgkajoeaaDoor.PF
open Go.RowKit Go.Proofs.YtapijkdgkajoeaaDoorW.PrintWords Go.Proofs.YtapijkdgkajoeaaDoorW.PrintLast Go.Proofs.YtapijkdgkajoeaaDoorW.PrintMore
attribute [local go_sem] max2_int min2_int max_two min_two
set_option linter.unusedVariables false
set_option linter.unusedSimpArgs false
attribute [local go_sem high] ixA103_1
def slices_Equal_int_int.l0 : Nat → List Int → List Int → Int → Int → Option (Bool)
 | 0, _, _, _, _ => none
 | k + 1, x0, x1, x12, x13 => if x13 < x12 then (if 0 ≤ x13 then (if x13 < (x0.length : Int) then (if x13 < (x1.length : Int) then (if (rd x0 x13) = (rd x1 x13) then (slices_Equal_int_int.l0 k x0 x1 x12 (wrap64 (x13 + 1))) else (some false)) else (none)) else (none)) else (none)) else (some true)
def slices_Equal_int_int.f (k : Nat) (l0 : List Int) (l1 : List Int) : Option (Bool) := if (l0.length : Int) = (l1.length : Int) then (slices_Equal_int_int.l0 k l0 l1 (l0.length : Int) 0) else (some false)
theorem slices_Equal_int_int.mono_l : ∀ k, (∀ y0 y1 y2 y3, LeO (slices_Equal_int_int.l0 k y0 y1 y2 y3) (slices_Equal_int_int.l0 (k + 1) y0 y1 y2 y3))
 | 0 => fun _ _ _ _ r h => by simp [slices_Equal_int_int.l0] at h
 | k + 1 => by
  have ih0 := slices_Equal_int_int.mono_l k
  ·
   intro y0 y1 y2 y3
   unfold slices_Equal_int_int.l0
   repeat' first
   | (with_reducible exact ih0 _ _ _ _)
   | (with_reducible exact LeO.refl _)
   | (with_reducible exact LeO.none _)
   | (with_reducible refine LeO.ite ?_ ?_)
   | (with_reducible refine LeO.bind ?_ (fun _ => ?_))
   | exact ih0 _ _ _ _
   | exact LeO.none _
   | refine LeO.ite ?_ ?_
   | refine LeO.bind ?_ (fun _ => ?_)
theorem slices_Equal_int_int.mono : ∀ a0 a1 k, LeO (slices_Equal_int_int.f k a0 a1) (slices_Equal_int_int.f (k + 1) a0 a1) := by
 intro a0 a1 k
 have ih0 := slices_Equal_int_int.mono_l k
 unfold slices_Equal_int_int.f
 repeat' first
   | (with_reducible exact ih0 _ _ _ _)
   | (with_reducible exact LeO.refl _)
   | (with_reducible exact LeO.none _)
   | (with_reducible refine LeO.ite ?_ ?_)
   | (with_reducible refine LeO.bind ?_ (fun _ => ?_))
   | exact ih0 _ _ _ _
   | exact LeO.none _
   | refine LeO.ite ?_ ?_
   | refine LeO.bind ?_ (fun _ => ?_)
set_option maxHeartbeats 8000000 in
set_option maxRecDepth 100000 in
theorem slices_Equal_int_int.calls (k : Nat) (A0 : Option Addr) (c0 : Nat) (l0 : List Int) (A1 : Option Addr) (c1 : Nat) (l1 : List Int) (r : Bool) (w : World) (hr0 : Kd.C (Kd.int .i64) w A0 l0.length l0) (hc0 : l0.length ≤ c0) (hr1 : Kd.C (Kd.int .i64) w A1 l1.length l1) (hc1 : l1.length ≤ c1) (h : slices_Equal_int_int.f k l0 l1 = some r) :
  Calls Tryd.prog 37 #[.slice A0 l0.length c0, .slice A1 l1.length c1] w fun e w' => e = .returned (.bool r) ∧ Drawn0 w w' := by
 have HR0 := Aside0.mk (hr0)
 have HC0 := Aside0.mk (hc0)
 clear hr0 hc0
 have HR1 := Aside0.mk (hr1)
 have HC1 := Aside0.mk (hc1)
 clear hr1 hc1
 have H : (if (l0.length : Int) = (l1.length : Int) then (slices_Equal_int_int.l0 k l0 l1 (l0.length : Int) 0) else (some false)) = some r := h
 clear h
 by_cases c3 : (l0.length : Int) = (l1.length : Int)
 ·
  rw [if_pos c3] at H
  have c3b0 : ((l0.length : Int) == (l1.length : Int)) = true := beq_iff_eq.mpr c3
  have c3b1 : ((l0.length : Int) != (l1.length : Int)) = false := bne_eq_false_iff_eq.mpr c3
  have c3b2 : (l0.length == l1.length) = true := by first | simpa using c3 | (simp at c3 ⊢; omega)
  clear c3
  have H' := Aside0.mk H
  clear H
  go_enter Tryd.func37, Tryd.ntmps37
  go_wp2
  repeat (go_quiet (fail); try go_wp2)
  go_loopg [13] k (fun kq v13 w' => ∃ (x13_1 : Int), v13 = .int .i64 x13_1 ∧ Aside0 (slices_Equal_int_int.l0 kq l0 l1 (l0.length : Int) x13_1 = some r) ∧ Aside0 (kq ≤ k) ∧ Drawn0 w w')
  case atStart => exact ⟨(0), (by first | rfl | (simp; done) | (simp [*]; done)), H', ⟨Nat.le_refl _⟩, by repeat (first | exact Drawn0.refl _ | apply Drawn0.step)⟩
  case round =>
   clear H'
   try clear c1
   try clear p2
   try clear c3
   try clear c3b0
   try clear c3b1
   try clear c3b2
   obtain ⟨x13_1, rfl, HA, HK1, ⟨m1, rfl⟩⟩ := hrel
   cases gk with
   | zero => exact absurd HA.out (by simp [slices_Equal_int_int.l0])
   | succ k1 =>
    have H := HA.out
    clear HA
    simp only [slices_Equal_int_int.l0] at H
    by_cases c4 : x13_1 < (l0.length : Int)
    ·
     rw [if_pos c4] at H
     have c4b0 : decide (x13_1 < (l0.length : Int)) = true := decide_eq_true c4
     clear c4
     by_cases c5 : 0 ≤ x13_1
     ·
      rw [if_pos c5] at H
      have c5b0 : decide (0 ≤ x13_1) = true := decide_eq_true c5
      clear c5
      by_cases c6 : x13_1 < (l0.length : Int)
      ·
       rw [if_pos c6] at H
       have c6b0 : decide (x13_1 < (l0.length : Int)) = true := decide_eq_true c6
       clear c6
       by_cases c7 : x13_1 < (l1.length : Int)
       ·
        rw [if_pos c7] at H
        have c7b0 : decide (x13_1 < (l1.length : Int)) = true := decide_eq_true c7
        clear c7
        by_cases c8 : (rd l0 x13_1) = (rd l1 x13_1)
        ·
         rw [if_pos c8] at H
         have c8b0 : ((rd l0 x13_1) == (rd l1 x13_1)) = true := beq_iff_eq.mpr c8
         have c8b1 : ((rd l0 x13_1) != (rd l1 x13_1)) = false := bne_eq_false_iff_eq.mpr c8
         clear c8
         have H' := Aside0.mk H
         clear H
         have p306 : 0 ≤ (x13_1 : Int) := of_decide_eq_true (by first | (with_reducible assumption) | assumption)
         have q306 : x13_1 < (l0.length : Int) := of_decide_eq_true (by first | (with_reducible assumption) | assumption)
         obtain ⟨ad306, e306, hx306_0⟩ := Kd.at_int HR0.out x13_1 p306 q306
         cases e306
         replace p306 := eq_true p306
         replace q306 := eq_true q306
         have p307 : 0 ≤ (x13_1 : Int) := of_decide_eq_true (by first | (with_reducible assumption) | assumption)
         have q307 : x13_1 < (l1.length : Int) := of_decide_eq_true (by first | (with_reducible assumption) | assumption)
         obtain ⟨ad307, e307, hx307_0⟩ := Kd.at_int HR1.out x13_1 p307 q307
         cases e307
         replace p307 := eq_true p307
         replace q307 := eq_true q307
         go_wp2
         repeat (go_quiet (fail); try go_wp2)
         go_roundg k1
         case measure => have := HK1.out; omega
         case rel => exact ⟨(wrap64 (x13_1 + 1)), (by first | rfl | (simp; done) | (simp [*]; done)), H', ⟨by have := HK1.out; omega⟩, by repeat (first | exact Drawn0.refl _ | apply Drawn0.step)⟩
        ·
         rw [if_neg c8] at H
         have c8b0 : ((rd l0 x13_1) == (rd l1 x13_1)) = false := beq_eq_false_iff_ne.mpr c8
         have c8b1 : ((rd l0 x13_1) != (rd l1 x13_1)) = true := bne_iff_ne.mpr c8
         obtain rfl := Option.some.inj H
         have p306 : 0 ≤ (x13_1 : Int) := of_decide_eq_true (by first | (with_reducible assumption) | assumption)
         have q306 : x13_1 < (l0.length : Int) := of_decide_eq_true (by first | (with_reducible assumption) | assumption)
         obtain ⟨ad306, e306, hx306_0⟩ := Kd.at_int HR0.out x13_1 p306 q306
         cases e306
         replace p306 := eq_true p306
         replace q306 := eq_true q306
         have p307 : 0 ≤ (x13_1 : Int) := of_decide_eq_true (by first | (with_reducible assumption) | assumption)
         have q307 : x13_1 < (l1.length : Int) := of_decide_eq_true (by first | (with_reducible assumption) | assumption)
         obtain ⟨ad307, e307, hx307_0⟩ := Kd.at_int HR1.out x13_1 p307 q307
         cases e307
         replace p307 := eq_true p307
         replace q307 := eq_true q307
         go_wp2
         repeat (go_quiet (fail); try go_wp2)
         go_ret
         exact ⟨by first | rfl | (simp; done) | (simp [*]; done), by repeat (first | exact Drawn0.refl _ | apply Drawn0.step)⟩
       ·
        rw [if_neg c7] at H
        exact absurd H (by simp)
      ·
       rw [if_neg c6] at H
       exact absurd H (by simp)
     ·
      rw [if_neg c5] at H
      exact absurd H (by simp)
    ·
     rw [if_neg c4] at H
     have c4b0 : decide (x13_1 < (l0.length : Int)) = false := decide_eq_false c4
     clear c4
     obtain rfl := Option.some.inj H
     go_wp2
     repeat (go_quiet (fail); try go_wp2)
     go_ret
     exact ⟨by first | rfl | (simp; done) | (simp [*]; done), by repeat (first | exact Drawn0.refl _ | apply Drawn0.step)⟩
 ·
  rw [if_neg c3] at H
  have c3b0 : ((l0.length : Int) == (l1.length : Int)) = false := beq_eq_false_iff_ne.mpr c3
  have c3b1 : ((l0.length : Int) != (l1.length : Int)) = true := bne_iff_ne.mpr c3
  have c3b2 : (l0.length == l1.length) = false := by first | simpa using c3 | (simp at c3 ⊢; omega)
  obtain rfl := Option.some.inj H
  go_enter Tryd.func37, Tryd.ntmps37
  go_wp2
  repeat (go_quiet (fail); try go_wp2)
  go_ret
  exact ⟨by first | rfl | (simp; done) | (simp [*]; done), by repeat (first | exact Drawn0.refl _ | apply Drawn0.step)⟩
def course_Density.f (k : Nat) (a0_0 : Int) (a0_1 : Int) (l0_2 : List (S26)) (a1_0 : Int) (a1_1 : Int) (a1_2 : Int) (a1_3 : Int) (a1_4 : Int) (a1_5 : Int) (a1_6 : Int) (a1_7 : Int) (l1_8 : List (S71)) (a2 : Int) (a3 : Int) : Option (Int × Int × Int) := (course_stakeOf.f k a0_0 a0_1 l0_2 a1_0 a1_1 a1_2 a1_3 a1_4 a1_5 a1_6 a1_7 l1_8 a2 a3).bind fun t311 => (if t311 = 0 then (if 0 ≤ a2 then (if a2 < (l1_8.length : Int) then (if ((rd_T71 l1_8 a2).f0) = 0 then (some (0, 0, 4)) else ((course_turns.f k a0_0 a0_1 l0_2 a1_0 a1_1 a1_2 a1_3 a1_4 a1_5 a1_6 a1_7 l1_8 a3).bind fun bt314 => (if bt314.2.2 = 0 then ((course_snow.f a1_0 a1_1 a1_2 a1_3 a1_4 a1_5 a1_6 a1_7 l1_8 ((rd_T71 l1_8 a2).f0) ((rd_T71 l1_8 a2).f1) ((rd_T71 l1_8 a2).f2) ((rd_T71 l1_8 a2).f3) ((rd_T71 l1_8 a2).f4) bt314.1 bt314.2.1).bind fun bt318 => (if (wrap64 ((wrap64 (20 * a1_5)) * ((rd_T71 l1_8 a2).f0))) = 0 then (none) else ((course_up.f (wrap64 (1000 * bt318.2)) (wrap64 (a1_5 * ((rd_T71 l1_8 a2).f0)))).bind fun t320 => (some (wrap64 (Int.tdiv (wrap64 (1000 * bt318.1)) (wrap64 ((wrap64 (20 * a1_5)) * ((rd_T71 l1_8 a2).f0)))), t320, 0))))) else (some (0, 0, bt314.2.2))))) else (none)) else (none)) else (some (0, 0, t311)))
theorem course_Density.mono : ∀ a0 a1 a2 a3 a4 a5 a6 a7 a8 a9 a10 a11 a12 a13 k, LeO (course_Density.f k a0 a1 a2 a3 a4 a5 a6 a7 a8 a9 a10 a11 a12 a13) (course_Density.f (k + 1) a0 a1 a2 a3 a4 a5 a6 a7 a8 a9 a10 a11 a12 a13) := by
 intro a0 a1 a2 a3 a4 a5 a6 a7 a8 a9 a10 a11 a12 a13 k
 unfold course_Density.f
 repeat' first
   | (with_reducible exact course_stakeOf.mono _ _ _ _ _ _ _ _ _ _ _ _ _ _ _)
   | (with_reducible exact course_turns.mono _ _ _ _ _ _ _ _ _ _ _ _ _ _)
   | (with_reducible exact LeO.refl _)
   | (with_reducible exact LeO.none _)
   | (with_reducible refine LeO.ite ?_ ?_)
   | (with_reducible refine LeO.bind ?_ (fun _ => ?_))
   | exact course_stakeOf.mono _ _ _ _ _ _ _ _ _ _ _ _ _ _ _
   | exact course_turns.mono _ _ _ _ _ _ _ _ _ _ _ _ _ _
   | exact LeO.none _
   | refine LeO.ite ?_ ?_
   | refine LeO.bind ?_ (fun _ => ?_)
def course_Density.T11 : Bool × List (List Nat × List Nat) := (true, [([], []), ([0], [0]), ([], []), ([2], [2]), ([3], [3]), ([], []), ([5], [5]), ([4, 6], [4, 6]), ([1, 7], [1, 7]), ([], []), ([9], [9]), ([], []), ([11], [11]), ([], []), ([13], [13]), ([12, 14], [12, 14]), ([10, 15], [10, 15]), ([8, 16], [8, 16]), ([17, 16, 0, 1, 2, 3, 4, 5, 6, 7, 8, 9, 10, 11, 12, 13, 14, 15, 16, 17], [17]), ([18, 0, 1, 2, 3, 4, 5, 6, 7, 8, 9, 10, 11, 12, 13, 14, 15, 16, 17, 18], [])])
def course_Density.B11 : List Nat := [0, 1, 0, 4, 12, 0, 32, 124, 255, 0, 512, 0, 2048, 0, 8192, 30720, 65024, 131071, 262143, 524287]
theorem course_Density.tab11 : rtab .any (opsOf Tryd.f44 11) = course_Density.T11 := by kernel_rfl
theorem course_Density.bits11 : waitsOk course_Density.T11.2 course_Density.B11 = true := by kernel_rfl
set_option maxHeartbeats 8000000 in
set_option maxRecDepth 100000 in
theorem course_Density.calls (k : Nat) (a0_0 : Int) (a0_1 : Int) (A0_2 : Option Addr) (c0_2 : Nat) (l0_2 : List (S26)) (a1_0 : Int) (a1_1 : Int) (a1_2 : Int) (a1_3 : Int) (a1_4 : Int) (a1_5 : Int) (a1_6 : Int) (a1_7 : Int) (A1_8 : Option Addr) (c1_8 : Nat) (l1_8 : List (S71)) (a2 : Int) (a3 : Int) (r1 : Int) (r2 : Int) (r3 : Int) (w : World) (hr0_2 : Kd.C k26 w A0_2 l0_2.length l0_2) (hc0_2 : l0_2.length ≤ c0_2) (hr1_8 : Kd.C k71 w A1_8 l1_8.length l1_8) (hc1_8 : l1_8.length ≤ c1_8) (h : course_Density.f k a0_0 a0_1 l0_2 a1_0 a1_1 a1_2 a1_3 a1_4 a1_5 a1_6 a1_7 l1_8 a2 a3 = some (r1, r2, r3)) :
  Calls Tryd.prog 44 #[.agg #[.int .i64 a0_0, .int .i64 a0_1, .slice A0_2 l0_2.length c0_2], .agg #[.int .i64 a1_0, .int .i64 a1_1, .int .i64 a1_2, .int .i64 a1_3, .int .i64 a1_4, .int .i64 a1_5, .int .i64 a1_6, .int .i64 a1_7, .slice A1_8 l1_8.length c1_8], .int .i64 a2, .int .i64 a3] w fun e w' => e = .returned (.tuple #[.agg #[.int .i64 r1, .int .i64 r2], .int .i64 r3]) ∧ Below w.heap.size w w' := by
 have hu24 := Tryd.underlying24
 have hu47 := Tryd.underlying47
 have hu40 := Tryd.underlying40
 have hu71 := Tryd.underlying71
 have hu103 := Tryd.underlying103
 have HR0_2 := Aside0.mk (hr0_2)
 have HC0_2 := Aside0.mk (hc0_2)
 clear hr0_2 hc0_2
 have HR1_8 := Aside0.mk (hr1_8)
 have HC1_8 := Aside0.mk (hc1_8)
 clear hr1_8 hc1_8
 have HB := Bw.mk (Below.refl w.heap.size w)
 have H : ((course_stakeOf.f k a0_0 a0_1 l0_2 a1_0 a1_1 a1_2 a1_3 a1_4 a1_5 a1_6 a1_7 l1_8 a2 a3).bind fun t311 => (if t311 = 0 then (if 0 ≤ a2 then (if a2 < (l1_8.length : Int) then (if ((rd_T71 l1_8 a2).f0) = 0 then (some (0, 0, 4)) else ((course_turns.f k a0_0 a0_1 l0_2 a1_0 a1_1 a1_2 a1_3 a1_4 a1_5 a1_6 a1_7 l1_8 a3).bind fun bt314 => (if bt314.2.2 = 0 then ((course_snow.f a1_0 a1_1 a1_2 a1_3 a1_4 a1_5 a1_6 a1_7 l1_8 ((rd_T71 l1_8 a2).f0) ((rd_T71 l1_8 a2).f1) ((rd_T71 l1_8 a2).f2) ((rd_T71 l1_8 a2).f3) ((rd_T71 l1_8 a2).f4) bt314.1 bt314.2.1).bind fun bt318 => (if (wrap64 ((wrap64 (20 * a1_5)) * ((rd_T71 l1_8 a2).f0))) = 0 then (none) else ((course_up.f (wrap64 (1000 * bt318.2)) (wrap64 (a1_5 * ((rd_T71 l1_8 a2).f0)))).bind fun t320 => (some (wrap64 (Int.tdiv (wrap64 (1000 * bt318.1)) (wrap64 ((wrap64 (20 * a1_5)) * ((rd_T71 l1_8 a2).f0)))), t320, 0))))) else (some (0, 0, bt314.2.2))))) else (none)) else (none)) else (some (0, 0, t311)))) = some (r1, r2, r3) := h
 clear h
 replace H := Option.bind_eq_some_iff.mp H
 obtain ⟨t311, A50, H⟩ := H
 have A5 := Aside0.mk (A50)
 clear A50
 by_cases c6 : t311 = 0
 ·
  rw [if_pos c6] at H
  have c6b0 : (t311 == 0) = true := beq_iff_eq.mpr c6
  have c6b1 : (t311 != 0) = false := bne_eq_false_iff_eq.mpr c6
  clear c6
  by_cases c7 : 0 ≤ a2
  ·
   rw [if_pos c7] at H
   have c7b0 : decide (0 ≤ a2) = true := decide_eq_true c7
   clear c7
   by_cases c8 : a2 < (l1_8.length : Int)
   ·
    rw [if_pos c8] at H
    have c8b0 : decide (a2 < (l1_8.length : Int)) = true := decide_eq_true c8
    clear c8
    by_cases c9 : ((rd_T71 l1_8 a2).f0) = 0
    ·
     rw [if_pos c9] at H
     have c9b0 : (((rd_T71 l1_8 a2).f0) == 0) = true := beq_iff_eq.mpr c9
     have c9b1 : (((rd_T71 l1_8 a2).f0) != 0) = false := bne_eq_false_iff_eq.mpr c9
     clear c9
     simp only [Option.some.injEq, Prod.mk.injEq] at H
     obtain ⟨rfl, rfl, rfl⟩ := H
     go_enter Tryd.func44, Tryd.ntmps44
     go_wp2_with (first | ((with_reducible refine gate_dst (N := 4) rfl ?_); refine bxE 4 24 #[.int .i64 a0_0, .int .i64 a0_1, .slice A0_2 l0_2.length c0_2] (by rfl) (by rfl) (by first | (go_simp; done) | (go_simp; rfl)) ?_; intro gb308 hg w10 hbox hb; have BK308 := Bk.mk (hbox); have GE308 := eB w hg; replace HB := bS w hb; clear hb hbox hg) | ((with_reducible refine gate_dst (N := 5) rfl ?_); refine bxE 5 47 #[.int .i64 a1_0, .int .i64 a1_1, .int .i64 a1_2, .int .i64 a1_3, .int .i64 a1_4, .int .i64 a1_5, .int .i64 a1_6, .int .i64 a1_7, .slice A1_8 l1_8.length c1_8] (by rfl) (by rfl) (by first | (go_simp; done) | (go_simp; rfl)) ?_; intro gb309 hg w11 hbox hb; have BK309 := Bk.mk (hbox); have GE309 := eB w hg; have NB308_309 := nB gb308 hg; replace BK308 := kB gb308 hb; replace HB := bS w hb; clear hb hbox hg) | ((with_reducible refine gate_dst (N := 8) rfl ?_); refine bxE 8 40 #[.int .i64 0, .int .i64 0] (by rfl) (by rfl) (by first | (go_simp; done) | (go_simp; rfl)) ?_; intro gb310 hg w12 hbox hb; have BK310 := Bk.mk (hbox); have GE310 := eB w hg; have NB308_310 := nB gb308 hg; have NB309_310 := nB gb309 hg; replace BK308 := kB gb308 hb; replace BK309 := kB gb309 hb; replace HB := bS w hb; clear hb hbox hg; obtain ⟨hnb13, hnc13⟩ := nn NB308_309; obtain ⟨hnb14, hnc14⟩ := nn NB308_310; obtain ⟨hcz15_0, hcz15_1, hcz15_2, hfz15_0, hfz15_1, hfz15_2⟩ := cz3 BK308; obtain ⟨hnb16, hnc16⟩ := nn NB309_310; obtain ⟨hcz17_0, hcz17_1, hcz17_2, hcz17_3, hcz17_4, hcz17_5, hcz17_6, hcz17_7, hcz17_8, hfz17_0, hfz17_1, hfz17_2, hfz17_3, hfz17_4, hfz17_5, hfz17_6, hfz17_7, hfz17_8⟩ := cz9 BK309) | ((with_reducible refine gate_callee (f := 104) rfl ?_); refine goesLM (some 20) rfl rfl Tryd.func104 (by kernel_rfl) rfl #[.agg #[.int .i64 a0_0, .int .i64 a0_1, .slice A0_2 l0_2.length c0_2], .agg #[.int .i64 a1_0, .int .i64 a1_1, .int .i64 a1_2, .int .i64 a1_3, .int .i64 a1_4, .int .i64 a1_5, .int .i64 a1_6, .int .i64 a1_7, .slice A1_8 l1_8.length c1_8], .int .i64 a2, .int .i64 a3] rfl (by rfl) ?_; (with_reducible refine (course_stakeOf.calls k a0_0 a0_1 _ _ l0_2 a1_0 a1_1 a1_2 a1_3 a1_4 a1_5 a1_6 a1_7 _ _ l1_8 a2 a3 t311 _ ?side1 ?side2 ?side3 ?side4 A5.out).mono ?_); (case side1 => exact cP (Kd.C_below HR0_2.out HB.out)); (case side2 => exact HC0_2.out); (case side3 => exact cP (Kd.C_below HR1_8.out HB.out)); (case side4 => exact HC1_8.out); rintro e w18 ⟨rfl, hb⟩; refine ⟨_, rfl, ?_⟩; replace BK308 := kB gb308 hb; replace BK309 := kB gb309 hb; replace BK310 := kB gb310 hb; replace HB := bS w hb; (try clear hb); obtain ⟨hcz19_0, hcz19_1, hcz19_2, hcz19_3, hcz19_4, hcz19_5, hcz19_6, hcz19_7, hcz19_8, hfz19_0, hfz19_1, hfz19_2, hfz19_3, hfz19_4, hfz19_5, hfz19_6, hfz19_7, hfz19_8⟩ := cz9 BK309; have p312 : 0 ≤ (a2 : Int) := of_decide_eq_true (by first | (with_reducible assumption) | assumption); have q312 : a2 < (l1_8.length : Int) := of_decide_eq_true (by first | (with_reducible assumption) | assumption); obtain ⟨ad312, e312, hx312_0, hx312_1, hx312_2, hx312_3, hx312_4⟩ := at_T71 HR1_8.out a2 p312 q312; cases e312; replace hx312_0 := cB HB hx312_0; replace hx312_1 := cB HB hx312_1; replace hx312_2 := cB HB hx312_2; replace hx312_3 := cB HB hx312_3; replace hx312_4 := cB HB hx312_4; replace p312 := eq_true p312; replace q312 := eq_true q312) | ((with_reducible refine gate_dst (N := 11) rfl ?_); refine bxE 11 71 #[.int .i64 0, .int .i64 0, .int .i64 0, .int .i64 0, .int .i64 0] (by rfl) (by rfl) (by first | (go_simp; done) | (go_simp; rfl)) ?_; intro gb313 hg w20 hbox hb; have BK313 := Bk.mk (hbox); have GE313 := eB w hg; have NB308_313 := nB gb308 hg; have NB309_313 := nB gb309 hg; have NB310_313 := nB gb310 hg; replace BK308 := kB gb308 hb; replace BK309 := kB gb309 hb; replace BK310 := kB gb310 hb; replace HB := bS w hb; clear hb hbox hg; obtain ⟨hnc21, hnb21⟩ := nn NB308_313; obtain ⟨hnc22, hnb22⟩ := nn NB309_313; obtain ⟨hnc23, hnb23⟩ := nn NB310_313; obtain ⟨hcz24_0, hcz24_1, hcz24_2, hcz24_3, hcz24_4, hfz24_0, hfz24_1, hfz24_2, hfz24_3, hfz24_4⟩ := cz5 BK313; obtain ⟨hcz25_0, hcz25_1, hfz25_0, hfz25_1⟩ := cz2 BK310))
     all_goals (refine bodyPost_ret (results_ct rfl _ _ gb310 40 #[.int .i64 0, .int .i64 0] (0, 0) _ rfl (bko gb310 (by rfl)) Tryd.underlying40 rfl (by kernel_rfl)) rfl ?_; exact ⟨by first | rfl | (simp [errW_none, errW_some] <;> rfl) | (simp [*, errW_none, errW_some] <;> rfl), bw w⟩)
    ·
     rw [if_neg c9] at H
     have c9b0 : (((rd_T71 l1_8 a2).f0) == 0) = false := beq_eq_false_iff_ne.mpr c9
     have c9b1 : (((rd_T71 l1_8 a2).f0) != 0) = true := bne_iff_ne.mpr c9
     replace H := Option.bind_eq_some_iff.mp H
     obtain ⟨⟨t314, t315, t316⟩, A260, H⟩ := H
     have A26 := Aside0.mk (A260)
     clear A260
     by_cases c27 : t316 = 0
     ·
      rw [if_pos c27] at H
      have c27b0 : (t316 == 0) = true := beq_iff_eq.mpr c27
      have c27b1 : (t316 != 0) = false := bne_eq_false_iff_eq.mpr c27
      clear c27
      replace H := Option.bind_eq_some_iff.mp H
      obtain ⟨⟨t318, t319⟩, A280, H⟩ := H
      have A28 := Aside0.mk (A280)
      clear A280
      by_cases c29 : (wrap64 ((wrap64 (20 * a1_5)) * ((rd_T71 l1_8 a2).f0))) = 0
      ·
       rw [if_pos c29] at H
       exact absurd H (by simp)
      ·
       rw [if_neg c29] at H
       have c29b0 : ((wrap64 ((wrap64 (20 * a1_5)) * ((rd_T71 l1_8 a2).f0))) == 0) = false := beq_eq_false_iff_ne.mpr c29
       have c29b1 : ((wrap64 ((wrap64 (20 * a1_5)) * ((rd_T71 l1_8 a2).f0))) != 0) = true := bne_iff_ne.mpr c29
       replace H := Option.bind_eq_some_iff.mp H
       obtain ⟨t320, A300, H⟩ := H
       have A30 := Aside0.mk (A300)
       clear A300
       simp only [Option.some.injEq, Prod.mk.injEq] at H
       obtain ⟨rfl, rfl, rfl⟩ := H
       go_enter Tryd.func44, Tryd.ntmps44
       try go_wp2_with (first | ((with_reducible refine gate_dst (N := 4) rfl ?_); refine bxE 4 24 #[.int .i64 a0_0, .int .i64 a0_1, .slice A0_2 l0_2.length c0_2] (by rfl) (by rfl) (by first | (go_simp; done) | (go_simp; rfl)) ?_; intro gb308 hg w31 hbox hb; have BK308 := Bk.mk (hbox); have GE308 := eB w hg; replace HB := bS w hb; clear hb hbox hg) | ((with_reducible refine gate_dst (N := 5) rfl ?_); refine bxE 5 47 #[.int .i64 a1_0, .int .i64 a1_1, .int .i64 a1_2, .int .i64 a1_3, .int .i64 a1_4, .int .i64 a1_5, .int .i64 a1_6, .int .i64 a1_7, .slice A1_8 l1_8.length c1_8] (by rfl) (by rfl) (by first | (go_simp; done) | (go_simp; rfl)) ?_; intro gb309 hg w32 hbox hb; have BK309 := Bk.mk (hbox); have GE309 := eB w hg; have NB308_309 := nB gb308 hg; replace BK308 := kB gb308 hb; replace HB := bS w hb; clear hb hbox hg) | ((with_reducible refine gate_dst (N := 8) rfl ?_); refine bxE 8 40 #[.int .i64 0, .int .i64 0] (by rfl) (by rfl) (by first | (go_simp; done) | (go_simp; rfl)) ?_; intro gb310 hg w33 hbox hb; have BK310 := Bk.mk (hbox); have GE310 := eB w hg; have NB308_310 := nB gb308 hg; have NB309_310 := nB gb309 hg; replace BK308 := kB gb308 hb; replace BK309 := kB gb309 hb; replace HB := bS w hb; clear hb hbox hg; obtain ⟨hnb34, hnc34⟩ := nn NB308_309; obtain ⟨hnb35, hnc35⟩ := nn NB308_310; obtain ⟨hcz36_0, hcz36_1, hcz36_2, hfz36_0, hfz36_1, hfz36_2⟩ := cz3 BK308; obtain ⟨hnb37, hnc37⟩ := nn NB309_310; obtain ⟨hcz38_0, hcz38_1, hcz38_2, hcz38_3, hcz38_4, hcz38_5, hcz38_6, hcz38_7, hcz38_8, hfz38_0, hfz38_1, hfz38_2, hfz38_3, hfz38_4, hfz38_5, hfz38_6, hfz38_7, hfz38_8⟩ := cz9 BK309) | ((with_reducible refine gate_callee (f := 104) rfl ?_); refine goesLM (some 20) rfl rfl Tryd.func104 (by kernel_rfl) rfl #[.agg #[.int .i64 a0_0, .int .i64 a0_1, .slice A0_2 l0_2.length c0_2], .agg #[.int .i64 a1_0, .int .i64 a1_1, .int .i64 a1_2, .int .i64 a1_3, .int .i64 a1_4, .int .i64 a1_5, .int .i64 a1_6, .int .i64 a1_7, .slice A1_8 l1_8.length c1_8], .int .i64 a2, .int .i64 a3] rfl (by rfl) ?_; (with_reducible refine (course_stakeOf.calls k a0_0 a0_1 _ _ l0_2 a1_0 a1_1 a1_2 a1_3 a1_4 a1_5 a1_6 a1_7 _ _ l1_8 a2 a3 t311 _ ?side1 ?side2 ?side3 ?side4 A5.out).mono ?_); (case side1 => exact cP (Kd.C_below HR0_2.out HB.out)); (case side2 => exact HC0_2.out); (case side3 => exact cP (Kd.C_below HR1_8.out HB.out)); (case side4 => exact HC1_8.out); rintro e w39 ⟨rfl, hb⟩; refine ⟨_, rfl, ?_⟩; replace BK308 := kB gb308 hb; replace BK309 := kB gb309 hb; replace BK310 := kB gb310 hb; replace HB := bS w hb; (try clear hb); obtain ⟨hcz40_0, hcz40_1, hcz40_2, hcz40_3, hcz40_4, hcz40_5, hcz40_6, hcz40_7, hcz40_8, hfz40_0, hfz40_1, hfz40_2, hfz40_3, hfz40_4, hfz40_5, hfz40_6, hfz40_7, hfz40_8⟩ := cz9 BK309; have p312 : 0 ≤ (a2 : Int) := of_decide_eq_true (by first | (with_reducible assumption) | assumption); have q312 : a2 < (l1_8.length : Int) := of_decide_eq_true (by first | (with_reducible assumption) | assumption); obtain ⟨ad312, e312, hx312_0, hx312_1, hx312_2, hx312_3, hx312_4⟩ := at_T71 HR1_8.out a2 p312 q312; cases e312; replace hx312_0 := cB HB hx312_0; replace hx312_1 := cB HB hx312_1; replace hx312_2 := cB HB hx312_2; replace hx312_3 := cB HB hx312_3; replace hx312_4 := cB HB hx312_4; replace p312 := eq_true p312; replace q312 := eq_true q312) | ((with_reducible refine gate_dst (N := 11) rfl ?_); refine bxE 11 71 #[.int .i64 0, .int .i64 0, .int .i64 0, .int .i64 0, .int .i64 0] (by rfl) (by rfl) (by first | (go_simp; done) | (go_simp; rfl)) ?_; intro gb313 hg w41 hbox hb; have BK313 := Bk.mk (hbox); have GE313 := eB w hg; have NB308_313 := nB gb308 hg; have NB309_313 := nB gb309 hg; have NB310_313 := nB gb310 hg; replace BK308 := kB gb308 hb; replace BK309 := kB gb309 hb; replace BK310 := kB gb310 hb; replace HB := bS w hb; clear hb hbox hg; obtain ⟨hnc42, hnb42⟩ := nn NB308_313; obtain ⟨hnc43, hnb43⟩ := nn NB309_313; obtain ⟨hnc44, hnb44⟩ := nn NB310_313; obtain ⟨hcz45_0, hcz45_1, hcz45_2, hcz45_3, hcz45_4, hfz45_0, hfz45_1, hfz45_2, hfz45_3, hfz45_4⟩ := cz5 BK313; obtain ⟨hcz46_0, hcz46_1, hcz46_2, hfz46_0, hfz46_1, hfz46_2⟩ := cz3 BK308; obtain ⟨hcz47_0, hcz47_1, hcz47_2, hcz47_3, hcz47_4, hcz47_5, hcz47_6, hcz47_7, hcz47_8, hfz47_0, hfz47_1, hfz47_2, hfz47_3, hfz47_4, hfz47_5, hfz47_6, hfz47_7, hfz47_8⟩ := cz9 BK309) | ((with_reducible refine gate_callee (f := 105) rfl ?_); refine goesLM (some 38) rfl rfl Tryd.func105 (by kernel_rfl) rfl #[.agg #[.int .i64 a0_0, .int .i64 a0_1, .slice A0_2 l0_2.length c0_2], .agg #[.int .i64 a1_0, .int .i64 a1_1, .int .i64 a1_2, .int .i64 a1_3, .int .i64 a1_4, .int .i64 a1_5, .int .i64 a1_6, .int .i64 a1_7, .slice (some ad312) l1_8.length c1_8], .int .i64 a3] rfl (by rfl) ?_; (with_reducible refine (course_turns.calls k a0_0 a0_1 _ _ l0_2 a1_0 a1_1 a1_2 a1_3 a1_4 a1_5 a1_6 a1_7 _ _ l1_8 a3 t314 t315 t316 _ ?side1 ?side2 ?side3 ?side4 A26.out).mono ?_); (case side1 => exact Kd.C_below HR0_2.out (bw w)); (case side2 => exact HC0_2.out); (case side3 => exact Kd.C_below HR1_8.out (bw w)); (case side4 => exact HC1_8.out); rintro e w48 ⟨rfl, hb⟩; refine ⟨_, rfl, ?_⟩; replace BK308 := kB gb308 hb; replace BK309 := kB gb309 hb; replace BK310 := kB gb310 hb; replace BK313 := kBo gb313 (.cells #[.int .i64 ((rd_T71 l1_8 a2).f0), .int .i64 ((rd_T71 l1_8 a2).f1), .int .i64 ((rd_T71 l1_8 a2).f2), .int .i64 ((rd_T71 l1_8 a2).f3), .int .i64 ((rd_T71 l1_8 a2).f4)] 71 (0, 0)) hb (by rfl); replace HB := bS w hb; (try clear hb)) | ((with_reducible refine gate_dst (N := 12) rfl ?_); refine bxE 12 103 #[.int .i64 0, .int .i64 0] (by rfl) (by rfl) (by first | (go_simp; done) | (go_simp; rfl)) ?_; intro gb317 hg w49 hbox hb; have BK317 := Bk.mk (hbox); have GE317 := eB w hg; have NB308_317 := nB gb308 hg; have NB309_317 := nB gb309 hg; have NB310_317 := nB gb310 hg; have NB313_317 := nB gb313 hg; replace BK308 := kB gb308 hb; replace BK309 := kB gb309 hb; replace BK310 := kB gb310 hb; replace BK313 := kB gb313 hb; replace HB := bS w hb; clear hb hbox hg; obtain ⟨hnc50, hnb50⟩ := nn NB308_317; obtain ⟨hnc51, hnb51⟩ := nn NB309_317; obtain ⟨hnc52, hnb52⟩ := nn NB310_317; obtain ⟨hnc53, hnb53⟩ := nn NB313_317; obtain ⟨hcz54_0, hcz54_1, hfz54_0, hfz54_1⟩ := cz2 BK317; obtain ⟨hcz55_0, hcz55_1, hcz55_2, hcz55_3, hcz55_4, hcz55_5, hcz55_6, hcz55_7, hcz55_8, hfz55_0, hfz55_1, hfz55_2, hfz55_3, hfz55_4, hfz55_5, hfz55_6, hfz55_7, hfz55_8⟩ := cz9 BK309; obtain ⟨hcz56_0, hcz56_1, hcz56_2, hcz56_3, hcz56_4, hfz56_0, hfz56_1, hfz56_2, hfz56_3, hfz56_4⟩ := cz5 BK313) | ((with_reducible refine gate_callee (f := 86) rfl ?_); refine goesLM (some 49) rfl rfl Tryd.func86 (by kernel_rfl) rfl #[.agg #[.int .i64 a1_0, .int .i64 a1_1, .int .i64 a1_2, .int .i64 a1_3, .int .i64 a1_4, .int .i64 a1_5, .int .i64 a1_6, .int .i64 a1_7, .slice (some ad312) l1_8.length c1_8], .agg #[.int .i64 ((rd_T71 l1_8 a2).f0), .int .i64 ((rd_T71 l1_8 a2).f1), .int .i64 ((rd_T71 l1_8 a2).f2), .int .i64 ((rd_T71 l1_8 a2).f3), .int .i64 ((rd_T71 l1_8 a2).f4)], .agg #[.int .i64 t314, .int .i64 t315]] rfl (by rfl) ?_; (with_reducible refine (course_snow.calls a1_0 a1_1 a1_2 a1_3 a1_4 a1_5 a1_6 a1_7 _ _ l1_8 ((rd_T71 l1_8 a2).f0) ((rd_T71 l1_8 a2).f1) ((rd_T71 l1_8 a2).f2) ((rd_T71 l1_8 a2).f3) ((rd_T71 l1_8 a2).f4) t314 t315 t318 t319 _ ?side1 ?side2 A28.out).mono ?_); (case side1 => exact Kd.C_below HR1_8.out (bw w)); (case side2 => exact HC1_8.out); rintro e w57 ⟨rfl, hb⟩; refine ⟨_, rfl, ?_⟩; replace BK308 := kB gb308 hb; replace BK309 := kB gb309 hb; replace BK310 := kB gb310 hb; replace BK313 := kB gb313 hb; replace BK317 := kBo gb317 (.cells #[.int .i64 t314, .int .i64 t315] 103 (0, 0)) hb (by rfl); replace HB := bS w hb; (try clear hb)))
       have n0_ := Bk.mk (blk_drew BK308.out)
       have n1_ := Bk.mk (blk_drew BK309.out)
       have n2_ := Bk.mk (blk_drew BK310.out)
       have n3_ := Bk.mk (blk_drew BK313.out)
       have n4_ := Bk.mk (blk_drew BK317.out)
       have n5_ := Bw.mk (below_drew1 HB.out)
       clear BK308 BK309 BK310 BK313 BK317 HB
       have BK308 := n0_
       have BK309 := n1_
       have BK310 := n2_
       have BK313 := n3_
       have BK317 := n4_
       have HB := n5_
       clear n0_ n1_ n2_ n3_ n4_ n5_
       refine start_ (n := 20) (S := fun w' => w'.cell? ⟨gb309, 0, none⟩ = some (.int .i64 a1_0) ∧ w'.cell? ⟨gb309, 1, none⟩ = some (.int .i64 a1_1) ∧ w'.cell? ⟨gb309, 2, none⟩ = some (.int .i64 a1_2) ∧ w'.cell? ⟨gb309, 3, none⟩ = some (.int .i64 a1_3) ∧ w'.cell? ⟨gb309, 4, none⟩ = some (.int .i64 a1_4) ∧ w'.cell? ⟨gb309, 5, none⟩ = some (.int .i64 a1_5) ∧ w'.cell? ⟨gb309, 6, none⟩ = some (.int .i64 a1_6) ∧ w'.cell? ⟨gb309, 7, none⟩ = some (.int .i64 a1_7) ∧ w'.cell? ⟨gb309, 8, none⟩ = some (.slice (some ad312) l1_8.length c1_8) ∧ w'.cell? ⟨gb313, 0, none⟩ = some (.int .i64 ((rd_T71 l1_8 a2).f0)) ∧ w'.cell? ⟨gb313, 1, none⟩ = some (.int .i64 ((rd_T71 l1_8 a2).f1)) ∧ w'.cell? ⟨gb313, 2, none⟩ = some (.int .i64 ((rd_T71 l1_8 a2).f2)) ∧ w'.cell? ⟨gb313, 3, none⟩ = some (.int .i64 ((rd_T71 l1_8 a2).f3)) ∧ w'.cell? ⟨gb313, 4, none⟩ = some (.int .i64 ((rd_T71 l1_8 a2).f4))) (ds := []) #[false, false, false, false, false, false, false, false, false, false, false, false, false, false, false, false, false, false, false, false] (by kernel_rfl) rfl rfl ⟨bc BK309 0, bc BK309 1, bc BK309 2, bc BK309 3, bc BK309 4, bc BK309 5, bc BK309 6, bc BK309 7, bc BK309 8, bc BK313 0, bc BK313 1, bc BK313 2, bc BK313 3, bc BK313 4⟩ (fun hHeld => ?_); refine with_tabW course_Density.tab11 course_Density.bits11 (fun HT_ HW_ => ?_)
       generalize w57.drew = w58 at BK308 BK309 BK310 BK313 BK317 HB hHeld ⊢
       refine pS 0 (some 52) rfl rfl (any_of HT_.out (by kernel_rfl)) (fun _ _ _ h => h) (by rfl) (fun w' => by go_simp; with_reducible rfl) (by simp only [Act.put, List.setIfInBounds_toArray, List.set_cons_zero, List.set_cons_succ, i64_w]; rfl) ?_
       refine pS 1 (some 53) rfl rfl (any_of HT_.out (by kernel_rfl)) (fun _ _ _ h => h) (by rfl) (fun w' => by go_simp; with_reducible rfl) (by simp only [Act.put, List.setIfInBounds_toArray, List.set_cons_zero, List.set_cons_succ, i64_w]; rfl) ?_
       refine pS 2 (some 54) rfl rfl (any_of HT_.out (by kernel_rfl)) (fun _ _ _ h => h) (by rfl) (fun w' => by go_simp; with_reducible rfl) (by simp only [Act.put, List.setIfInBounds_toArray, List.set_cons_zero, List.set_cons_succ, i64_w]; rfl) ?_
       refine pS 5 (some 57) rfl rfl (any_of HT_.out (by kernel_rfl)) (fun _ _ _ h => h) (by rfl) (fun w' => by go_simp; with_reducible rfl) (by simp only [Act.put, List.setIfInBounds_toArray, List.set_cons_zero, List.set_cons_succ, i64_w]; rfl) ?_
       refine pS 9 (some 61) rfl rfl (any_of HT_.out (by kernel_rfl)) (fun _ _ _ h => h) (by rfl) (fun w' => by go_simp; with_reducible rfl) (by simp only [Act.put, List.setIfInBounds_toArray, List.set_cons_zero, List.set_cons_succ, i64_w]; rfl) ?_
       refine pS 10 (some 62) rfl rfl (any_of HT_.out (by kernel_rfl)) (fun _ _ _ h => h) (by rfl) (fun w' => by go_simp; with_reducible rfl) (by simp only [Act.put, List.setIfInBounds_toArray, List.set_cons_zero, List.set_cons_succ, i64_w]; rfl) ?_
       refine pS 11 (some 63) rfl rfl (any_of HT_.out (by kernel_rfl)) (fun _ _ _ h => h) (by rfl) (fun w' => by go_simp; with_reducible rfl) (by simp only [Act.put, List.setIfInBounds_toArray, List.set_cons_zero, List.set_cons_succ, i64_w]; rfl) ?_
       refine pS 13 (some 65) rfl rfl (any_of HT_.out (by kernel_rfl)) (fun _ _ _ h => h) (by rfl) (fun w' => by go_simp; with_reducible rfl) (by simp only [Act.put, List.setIfInBounds_toArray, List.set_cons_zero, List.set_cons_succ, i64_w]; rfl) ?_
       refine tS 3 (some 55) rfl rfl (take_ofW HT_.out HW_.out (by kernel_rfl)) (fun _ _ _ h => h) (by rfl) (by rintro w' ⟨s0, s1, s2, s3, s4, s5, s6, s7, s8, s9, s10, s11, s12, s13⟩; go_simp; with_reducible rfl) hHeld (by simp only [Act.put, List.setIfInBounds_toArray, List.set_cons_zero, List.set_cons_succ, i64_w]; rfl) ?_
       refine pS 4 (some 56) rfl rfl (any_of HT_.out (by kernel_rfl)) (fun _ _ _ h => h) (by rfl) (fun w' => by go_simp; with_reducible rfl) (by simp only [Act.put, List.setIfInBounds_toArray, List.set_cons_zero, List.set_cons_succ, i64_w]; rfl) ?_
       refine tS 6 (some 58) rfl rfl (take_ofW HT_.out HW_.out (by kernel_rfl)) (fun _ _ _ h => h) (by rfl) (by rintro w' ⟨s0, s1, s2, s3, s4, s5, s6, s7, s8, s9, s10, s11, s12, s13⟩; go_simp; with_reducible rfl) hHeld (by simp only [Act.put, List.setIfInBounds_toArray, List.set_cons_zero, List.set_cons_succ, i64_w]; rfl) ?_
       refine pS 7 (some 59) rfl rfl (any_of HT_.out (by kernel_rfl)) (fun _ _ _ h => h) (by rfl) (fun w' => by go_simp; with_reducible rfl) (by simp only [Act.put, List.setIfInBounds_toArray, List.set_cons_zero, List.set_cons_succ, i64_w]; rfl) ?_
       refine pS 8 (some 60) rfl rfl (any_of HT_.out (by kernel_rfl)) (fun _ _ _ h => h) (by rfl) (fun w' => by go_simp; with_reducible rfl) (by simp only [Act.put, List.setIfInBounds_toArray, List.set_cons_zero, List.set_cons_succ, i64_w]; rfl) ?_
       refine tS 12 (some 64) rfl rfl (take_ofW HT_.out HW_.out (by kernel_rfl)) (fun _ _ _ h => h) (by rfl) (by rintro w' ⟨s0, s1, s2, s3, s4, s5, s6, s7, s8, s9, s10, s11, s12, s13⟩; go_simp; with_reducible rfl) hHeld (by simp only [Act.put, List.setIfInBounds_toArray, List.set_cons_zero, List.set_cons_succ, i64_w]; rfl) ?_
       refine tS 14 (some 66) rfl rfl (take_ofW HT_.out HW_.out (by kernel_rfl)) (fun _ _ _ h => h) (by rfl) (by rintro w' ⟨s0, s1, s2, s3, s4, s5, s6, s7, s8, s9, s10, s11, s12, s13⟩; go_simp; with_reducible rfl) hHeld (by simp only [Act.put, List.setIfInBounds_toArray, List.set_cons_zero, List.set_cons_succ, i64_w]; rfl) ?_
       refine pS 15 (some 67) rfl rfl (any_of HT_.out (by kernel_rfl)) (fun _ _ _ h => h) (by rfl) (fun w' => by go_simp; with_reducible rfl) (by simp only [Act.put, List.setIfInBounds_toArray, List.set_cons_zero, List.set_cons_succ, i64_w]; rfl) ?_
       refine one_ (i := 16) (N := some 68) #[true, true, true, true, true, true, true, true, true, true, true, true, true, true, true, true, true, false, false, false] rfl rfl (one_of HT_.out (by kernel_rfl)) (by decide) (fun K hK => ?_)
       refine goesM Tryd.func87 (by kernel_rfl) rfl #[.int .i64 (wrap64 (1000 * t319)), .int .i64 (wrap64 (a1_5 * ((rd_T71 l1_8 a2).f0)))] (by rfl) rfl rfl (by rfl) ?_
       with_reducible refine (course_up.calls (wrap64 (1000 * t319)) (wrap64 (a1_5 * ((rd_T71 l1_8 a2).f0))) t320 _ A30.out).mono ?_
       rintro e w' ⟨rfl, ⟨nd, rfl⟩⟩
       refine ⟨_, rfl, ?_⟩
       refine hK.out _ _ ⟨bc BK309 0, bc BK309 1, bc BK309 2, bc BK309 3, bc BK309 4, bc BK309 5, bc BK309 6, bc BK309 7, bc BK309 8, bc BK313 0, bc BK313 1, bc BK313 2, bc BK313 3, bc BK313 4⟩ (fun hHeld => ?_)
       clear hK K
       refine norm_ (a' := ?_) ?_ ?_
       rotate_left
       ·
        show Act.put _ (some 68) _ = _
        simp only [Act.put, List.setIfInBounds_toArray, List.set_cons_zero, List.set_cons_succ, i64_w]
        rfl
       refine pS 17 (some 69) rfl rfl (any_of HT_.out (by kernel_rfl)) (fun _ _ _ h => h) (by rfl) (fun w' => by go_simp; with_reducible rfl) (by simp only [Act.put, List.setIfInBounds_toArray, List.set_cons_zero, List.set_cons_succ, i64_w]; rfl) ?_
       refine one_ (i := 18) (N := none) #[true, true, true, true, true, true, true, true, true, true, true, true, true, true, true, true, true, true, true, false] rfl rfl (one_of HT_.out (by kernel_rfl)) (by decide) (fun K hK => ?_)
       have hs59 : w58.cell? ⟨gb310, 0, none⟩ = some (.int .i64 0) := bc BK310 0
       have hfs59 := blk_frozen BK310.out 0
       have hns59_0 := NB308_310.out
       have hns59_1 := NB309_310.out
       have hns59_3 := NB310_313.out.symm
       have hns59_4 := NB310_317.out.symm
       have hms59_0 := NB308_310.out.symm
       have hms59_1 := NB309_310.out.symm
       have hms59_3 := NB310_313.out
       have hms59_4 := NB310_317.out
       have hs60 : w58.cell? ⟨gb310, 1, none⟩ = some (.int .i64 0) := bc BK310 1
       have hfs60 := blk_frozen BK310.out 1
       have hns60_0 := NB308_310.out
       have hns60_1 := NB309_310.out
       have hns60_3 := NB310_313.out.symm
       have hns60_4 := NB310_317.out.symm
       have hms60_0 := NB308_310.out.symm
       have hms60_1 := NB309_310.out.symm
       have hms60_3 := NB310_313.out
       have hms60_4 := NB310_317.out
       refine skip_ (w1 := ?_) (by rfl) rfl ?_ ?_
       rotate_left
       ·
        go_simp
        rfl
       refine hK.out _ _ ⟨((cell_far (p := ⟨gb310, _, none⟩) NB309_310.out _).trans (((cell_far (p := ⟨gb310, _, none⟩) NB309_310.out _).trans (hHeld.1)))), ((cell_far (p := ⟨gb310, _, none⟩) NB309_310.out _).trans (((cell_far (p := ⟨gb310, _, none⟩) NB309_310.out _).trans (hHeld.2.1)))), ((cell_far (p := ⟨gb310, _, none⟩) NB309_310.out _).trans (((cell_far (p := ⟨gb310, _, none⟩) NB309_310.out _).trans (hHeld.2.2.1)))), ((cell_far (p := ⟨gb310, _, none⟩) NB309_310.out _).trans (((cell_far (p := ⟨gb310, _, none⟩) NB309_310.out _).trans (hHeld.2.2.2.1)))), ((cell_far (p := ⟨gb310, _, none⟩) NB309_310.out _).trans (((cell_far (p := ⟨gb310, _, none⟩) NB309_310.out _).trans (hHeld.2.2.2.2.1)))), ((cell_far (p := ⟨gb310, _, none⟩) NB309_310.out _).trans (((cell_far (p := ⟨gb310, _, none⟩) NB309_310.out _).trans (hHeld.2.2.2.2.2.1)))), ((cell_far (p := ⟨gb310, _, none⟩) NB309_310.out _).trans (((cell_far (p := ⟨gb310, _, none⟩) NB309_310.out _).trans (hHeld.2.2.2.2.2.2.1)))), ((cell_far (p := ⟨gb310, _, none⟩) NB309_310.out _).trans (((cell_far (p := ⟨gb310, _, none⟩) NB309_310.out _).trans (hHeld.2.2.2.2.2.2.2.1)))), ((cell_far (p := ⟨gb310, _, none⟩) NB309_310.out _).trans (((cell_far (p := ⟨gb310, _, none⟩) NB309_310.out _).trans (hHeld.2.2.2.2.2.2.2.2.1)))), ((cell_far (p := ⟨gb310, _, none⟩) NB310_313.out.symm _).trans (((cell_far (p := ⟨gb310, _, none⟩) NB310_313.out.symm _).trans (hHeld.2.2.2.2.2.2.2.2.2.1)))), ((cell_far (p := ⟨gb310, _, none⟩) NB310_313.out.symm _).trans (((cell_far (p := ⟨gb310, _, none⟩) NB310_313.out.symm _).trans (hHeld.2.2.2.2.2.2.2.2.2.2.1)))), ((cell_far (p := ⟨gb310, _, none⟩) NB310_313.out.symm _).trans (((cell_far (p := ⟨gb310, _, none⟩) NB310_313.out.symm _).trans (hHeld.2.2.2.2.2.2.2.2.2.2.2.1)))), ((cell_far (p := ⟨gb310, _, none⟩) NB310_313.out.symm _).trans (((cell_far (p := ⟨gb310, _, none⟩) NB310_313.out.symm _).trans (hHeld.2.2.2.2.2.2.2.2.2.2.2.2.1)))), ((cell_far (p := ⟨gb310, _, none⟩) NB310_313.out.symm _).trans (((cell_far (p := ⟨gb310, _, none⟩) NB310_313.out.symm _).trans (hHeld.2.2.2.2.2.2.2.2.2.2.2.2.2))))⟩ (fun hHeld => ?_)
       clear hK K
       refine pS 19 (some 9) rfl rfl (any_of HT_.out (by kernel_rfl)) (fun _ _ _ h => h) (by rfl) (fun w' => by go_simp; with_reducible rfl) (by simp only [Act.put, List.setIfInBounds_toArray, List.set_cons_zero, List.set_cons_succ, i64_w]; rfl) ?_
       refine done_ (done_of HT_.out (by kernel_rfl)) ?_
       try go_wp2
       all_goals (refine bodyPost_ret (results_ct rfl _ _ gb310 40 #[.int .i64 (wrap64 (Int.tdiv (wrap64 (1000 * t318)) (wrap64 ((wrap64 (20 * a1_5)) * ((rd_T71 l1_8 a2).f0))))), .int .i64 t320] (0, 0) _ rfl (bko gb310 (by rfl)) Tryd.underlying40 rfl (by kernel_rfl)) rfl ?_; exact ⟨by first | rfl | (simp [errW_none, errW_some] <;> rfl) | (simp [*, errW_none, errW_some] <;> rfl), bw w⟩)
     ·
      rw [if_neg c27] at H
      have c27b0 : (t316 == 0) = false := beq_eq_false_iff_ne.mpr c27
      have c27b1 : (t316 != 0) = true := bne_iff_ne.mpr c27
      simp only [Option.some.injEq, Prod.mk.injEq] at H
      obtain ⟨rfl, rfl, rfl⟩ := H
      go_enter Tryd.func44, Tryd.ntmps44
      go_wp2_with (first | ((with_reducible refine gate_dst (N := 4) rfl ?_); refine bxE 4 24 #[.int .i64 a0_0, .int .i64 a0_1, .slice A0_2 l0_2.length c0_2] (by rfl) (by rfl) (by first | (go_simp; done) | (go_simp; rfl)) ?_; intro gb308 hg w61 hbox hb; have BK308 := Bk.mk (hbox); have GE308 := eB w hg; replace HB := bS w hb; clear hb hbox hg) | ((with_reducible refine gate_dst (N := 5) rfl ?_); refine bxE 5 47 #[.int .i64 a1_0, .int .i64 a1_1, .int .i64 a1_2, .int .i64 a1_3, .int .i64 a1_4, .int .i64 a1_5, .int .i64 a1_6, .int .i64 a1_7, .slice A1_8 l1_8.length c1_8] (by rfl) (by rfl) (by first | (go_simp; done) | (go_simp; rfl)) ?_; intro gb309 hg w62 hbox hb; have BK309 := Bk.mk (hbox); have GE309 := eB w hg; have NB308_309 := nB gb308 hg; replace BK308 := kB gb308 hb; replace HB := bS w hb; clear hb hbox hg) | ((with_reducible refine gate_dst (N := 8) rfl ?_); refine bxE 8 40 #[.int .i64 0, .int .i64 0] (by rfl) (by rfl) (by first | (go_simp; done) | (go_simp; rfl)) ?_; intro gb310 hg w63 hbox hb; have BK310 := Bk.mk (hbox); have GE310 := eB w hg; have NB308_310 := nB gb308 hg; have NB309_310 := nB gb309 hg; replace BK308 := kB gb308 hb; replace BK309 := kB gb309 hb; replace HB := bS w hb; clear hb hbox hg; obtain ⟨hnb64, hnc64⟩ := nn NB308_309; obtain ⟨hnb65, hnc65⟩ := nn NB308_310; obtain ⟨hcz66_0, hcz66_1, hcz66_2, hfz66_0, hfz66_1, hfz66_2⟩ := cz3 BK308; obtain ⟨hnb67, hnc67⟩ := nn NB309_310; obtain ⟨hcz68_0, hcz68_1, hcz68_2, hcz68_3, hcz68_4, hcz68_5, hcz68_6, hcz68_7, hcz68_8, hfz68_0, hfz68_1, hfz68_2, hfz68_3, hfz68_4, hfz68_5, hfz68_6, hfz68_7, hfz68_8⟩ := cz9 BK309) | ((with_reducible refine gate_callee (f := 104) rfl ?_); refine goesLM (some 20) rfl rfl Tryd.func104 (by kernel_rfl) rfl #[.agg #[.int .i64 a0_0, .int .i64 a0_1, .slice A0_2 l0_2.length c0_2], .agg #[.int .i64 a1_0, .int .i64 a1_1, .int .i64 a1_2, .int .i64 a1_3, .int .i64 a1_4, .int .i64 a1_5, .int .i64 a1_6, .int .i64 a1_7, .slice A1_8 l1_8.length c1_8], .int .i64 a2, .int .i64 a3] rfl (by rfl) ?_; (with_reducible refine (course_stakeOf.calls k a0_0 a0_1 _ _ l0_2 a1_0 a1_1 a1_2 a1_3 a1_4 a1_5 a1_6 a1_7 _ _ l1_8 a2 a3 t311 _ ?side1 ?side2 ?side3 ?side4 A5.out).mono ?_); (case side1 => exact cP (Kd.C_below HR0_2.out HB.out)); (case side2 => exact HC0_2.out); (case side3 => exact cP (Kd.C_below HR1_8.out HB.out)); (case side4 => exact HC1_8.out); rintro e w69 ⟨rfl, hb⟩; refine ⟨_, rfl, ?_⟩; replace BK308 := kB gb308 hb; replace BK309 := kB gb309 hb; replace BK310 := kB gb310 hb; replace HB := bS w hb; (try clear hb); obtain ⟨hcz70_0, hcz70_1, hcz70_2, hcz70_3, hcz70_4, hcz70_5, hcz70_6, hcz70_7, hcz70_8, hfz70_0, hfz70_1, hfz70_2, hfz70_3, hfz70_4, hfz70_5, hfz70_6, hfz70_7, hfz70_8⟩ := cz9 BK309; have p312 : 0 ≤ (a2 : Int) := of_decide_eq_true (by first | (with_reducible assumption) | assumption); have q312 : a2 < (l1_8.length : Int) := of_decide_eq_true (by first | (with_reducible assumption) | assumption); obtain ⟨ad312, e312, hx312_0, hx312_1, hx312_2, hx312_3, hx312_4⟩ := at_T71 HR1_8.out a2 p312 q312; cases e312; replace hx312_0 := cB HB hx312_0; replace hx312_1 := cB HB hx312_1; replace hx312_2 := cB HB hx312_2; replace hx312_3 := cB HB hx312_3; replace hx312_4 := cB HB hx312_4; replace p312 := eq_true p312; replace q312 := eq_true q312) | ((with_reducible refine gate_dst (N := 11) rfl ?_); refine bxE 11 71 #[.int .i64 0, .int .i64 0, .int .i64 0, .int .i64 0, .int .i64 0] (by rfl) (by rfl) (by first | (go_simp; done) | (go_simp; rfl)) ?_; intro gb313 hg w71 hbox hb; have BK313 := Bk.mk (hbox); have GE313 := eB w hg; have NB308_313 := nB gb308 hg; have NB309_313 := nB gb309 hg; have NB310_313 := nB gb310 hg; replace BK308 := kB gb308 hb; replace BK309 := kB gb309 hb; replace BK310 := kB gb310 hb; replace HB := bS w hb; clear hb hbox hg; obtain ⟨hnc72, hnb72⟩ := nn NB308_313; obtain ⟨hnc73, hnb73⟩ := nn NB309_313; obtain ⟨hnc74, hnb74⟩ := nn NB310_313; obtain ⟨hcz75_0, hcz75_1, hcz75_2, hcz75_3, hcz75_4, hfz75_0, hfz75_1, hfz75_2, hfz75_3, hfz75_4⟩ := cz5 BK313; obtain ⟨hcz76_0, hcz76_1, hcz76_2, hfz76_0, hfz76_1, hfz76_2⟩ := cz3 BK308; obtain ⟨hcz77_0, hcz77_1, hcz77_2, hcz77_3, hcz77_4, hcz77_5, hcz77_6, hcz77_7, hcz77_8, hfz77_0, hfz77_1, hfz77_2, hfz77_3, hfz77_4, hfz77_5, hfz77_6, hfz77_7, hfz77_8⟩ := cz9 BK309) | ((with_reducible refine gate_callee (f := 105) rfl ?_); refine goesLM (some 38) rfl rfl Tryd.func105 (by kernel_rfl) rfl #[.agg #[.int .i64 a0_0, .int .i64 a0_1, .slice A0_2 l0_2.length c0_2], .agg #[.int .i64 a1_0, .int .i64 a1_1, .int .i64 a1_2, .int .i64 a1_3, .int .i64 a1_4, .int .i64 a1_5, .int .i64 a1_6, .int .i64 a1_7, .slice (some ad312) l1_8.length c1_8], .int .i64 a3] rfl (by rfl) ?_; (with_reducible refine (course_turns.calls k a0_0 a0_1 _ _ l0_2 a1_0 a1_1 a1_2 a1_3 a1_4 a1_5 a1_6 a1_7 _ _ l1_8 a3 t314 t315 t316 _ ?side1 ?side2 ?side3 ?side4 A26.out).mono ?_); (case side1 => exact Kd.C_below HR0_2.out (bw w)); (case side2 => exact HC0_2.out); (case side3 => exact Kd.C_below HR1_8.out (bw w)); (case side4 => exact HC1_8.out); rintro e w78 ⟨rfl, hb⟩; refine ⟨_, rfl, ?_⟩; replace BK308 := kB gb308 hb; replace BK309 := kB gb309 hb; replace BK310 := kB gb310 hb; replace BK313 := kBo gb313 (.cells #[.int .i64 ((rd_T71 l1_8 a2).f0), .int .i64 ((rd_T71 l1_8 a2).f1), .int .i64 ((rd_T71 l1_8 a2).f2), .int .i64 ((rd_T71 l1_8 a2).f3), .int .i64 ((rd_T71 l1_8 a2).f4)] 71 (0, 0)) hb (by rfl); replace HB := bS w hb; (try clear hb)) | ((with_reducible refine gate_dst (N := 12) rfl ?_); refine bxE 12 103 #[.int .i64 0, .int .i64 0] (by rfl) (by rfl) (by first | (go_simp; done) | (go_simp; rfl)) ?_; intro gb317 hg w79 hbox hb; have BK317 := Bk.mk (hbox); have GE317 := eB w hg; have NB308_317 := nB gb308 hg; have NB309_317 := nB gb309 hg; have NB310_317 := nB gb310 hg; have NB313_317 := nB gb313 hg; replace BK308 := kB gb308 hb; replace BK309 := kB gb309 hb; replace BK310 := kB gb310 hb; replace BK313 := kB gb313 hb; replace HB := bS w hb; clear hb hbox hg; obtain ⟨hnc80, hnb80⟩ := nn NB308_317; obtain ⟨hnc81, hnb81⟩ := nn NB309_317; obtain ⟨hnc82, hnb82⟩ := nn NB310_317; obtain ⟨hnc83, hnb83⟩ := nn NB313_317; obtain ⟨hcz84_0, hcz84_1, hfz84_0, hfz84_1⟩ := cz2 BK317; obtain ⟨hcz85_0, hcz85_1, hfz85_0, hfz85_1⟩ := cz2 BK310))
      all_goals (refine bodyPost_ret (results_ct rfl _ _ gb310 40 #[.int .i64 0, .int .i64 0] (0, 0) _ rfl (bko gb310 (by rfl)) Tryd.underlying40 rfl (by kernel_rfl)) rfl ?_; exact ⟨by first | rfl | (simp [errW_none, errW_some] <;> rfl) | (simp [*, errW_none, errW_some] <;> rfl), bw w⟩)
   ·
    rw [if_neg c8] at H
    exact absurd H (by simp)
  ·
   rw [if_neg c7] at H
   exact absurd H (by simp)
 ·
  rw [if_neg c6] at H
  have c6b0 : (t311 == 0) = false := beq_eq_false_iff_ne.mpr c6
  have c6b1 : (t311 != 0) = true := bne_iff_ne.mpr c6
  simp only [Option.some.injEq, Prod.mk.injEq] at H
  obtain ⟨rfl, rfl, rfl⟩ := H
  go_enter Tryd.func44, Tryd.ntmps44
  go_wp2_with (first | ((with_reducible refine gate_dst (N := 4) rfl ?_); refine bxE 4 24 #[.int .i64 a0_0, .int .i64 a0_1, .slice A0_2 l0_2.length c0_2] (by rfl) (by rfl) (by first | (go_simp; done) | (go_simp; rfl)) ?_; intro gb308 hg w86 hbox hb; have BK308 := Bk.mk (hbox); have GE308 := eB w hg; replace HB := bS w hb; clear hb hbox hg) | ((with_reducible refine gate_dst (N := 5) rfl ?_); refine bxE 5 47 #[.int .i64 a1_0, .int .i64 a1_1, .int .i64 a1_2, .int .i64 a1_3, .int .i64 a1_4, .int .i64 a1_5, .int .i64 a1_6, .int .i64 a1_7, .slice A1_8 l1_8.length c1_8] (by rfl) (by rfl) (by first | (go_simp; done) | (go_simp; rfl)) ?_; intro gb309 hg w87 hbox hb; have BK309 := Bk.mk (hbox); have GE309 := eB w hg; have NB308_309 := nB gb308 hg; replace BK308 := kB gb308 hb; replace HB := bS w hb; clear hb hbox hg) | ((with_reducible refine gate_dst (N := 8) rfl ?_); refine bxE 8 40 #[.int .i64 0, .int .i64 0] (by rfl) (by rfl) (by first | (go_simp; done) | (go_simp; rfl)) ?_; intro gb310 hg w88 hbox hb; have BK310 := Bk.mk (hbox); have GE310 := eB w hg; have NB308_310 := nB gb308 hg; have NB309_310 := nB gb309 hg; replace BK308 := kB gb308 hb; replace BK309 := kB gb309 hb; replace HB := bS w hb; clear hb hbox hg; obtain ⟨hnb89, hnc89⟩ := nn NB308_309; obtain ⟨hnb90, hnc90⟩ := nn NB308_310; obtain ⟨hcz91_0, hcz91_1, hcz91_2, hfz91_0, hfz91_1, hfz91_2⟩ := cz3 BK308; obtain ⟨hnb92, hnc92⟩ := nn NB309_310; obtain ⟨hcz93_0, hcz93_1, hcz93_2, hcz93_3, hcz93_4, hcz93_5, hcz93_6, hcz93_7, hcz93_8, hfz93_0, hfz93_1, hfz93_2, hfz93_3, hfz93_4, hfz93_5, hfz93_6, hfz93_7, hfz93_8⟩ := cz9 BK309) | ((with_reducible refine gate_callee (f := 104) rfl ?_); refine goesLM (some 20) rfl rfl Tryd.func104 (by kernel_rfl) rfl #[.agg #[.int .i64 a0_0, .int .i64 a0_1, .slice A0_2 l0_2.length c0_2], .agg #[.int .i64 a1_0, .int .i64 a1_1, .int .i64 a1_2, .int .i64 a1_3, .int .i64 a1_4, .int .i64 a1_5, .int .i64 a1_6, .int .i64 a1_7, .slice A1_8 l1_8.length c1_8], .int .i64 a2, .int .i64 a3] rfl (by rfl) ?_; (with_reducible refine (course_stakeOf.calls k a0_0 a0_1 _ _ l0_2 a1_0 a1_1 a1_2 a1_3 a1_4 a1_5 a1_6 a1_7 _ _ l1_8 a2 a3 t311 _ ?side1 ?side2 ?side3 ?side4 A5.out).mono ?_); (case side1 => exact cP (Kd.C_below HR0_2.out HB.out)); (case side2 => exact HC0_2.out); (case side3 => exact cP (Kd.C_below HR1_8.out HB.out)); (case side4 => exact HC1_8.out); rintro e w94 ⟨rfl, hb⟩; refine ⟨_, rfl, ?_⟩; replace BK308 := kB gb308 hb; replace BK309 := kB gb309 hb; replace BK310 := kB gb310 hb; replace HB := bS w hb; (try clear hb); obtain ⟨hcz95_0, hcz95_1, hfz95_0, hfz95_1⟩ := cz2 BK310))
  all_goals (refine bodyPost_ret (results_ct rfl _ _ gb310 40 #[.int .i64 0, .int .i64 0] (0, 0) _ rfl (bko gb310 (by rfl)) Tryd.underlying40 rfl (by kernel_rfl)) rfl ?_; exact ⟨by first | rfl | (simp [errW_none, errW_some] <;> rfl) | (simp [*, errW_none, errW_some] <;> rfl), bw w⟩)
def snowlinelaw01_example.f  : Option (Int × Int × (List (S26))) := some (0, 0, (([(⟨10, 10, 0, 0⟩ : S26)] : List (S26))))
set_option maxHeartbeats 8000000 in
set_option maxRecDepth 100000 in
theorem snowlinelaw01_example.calls  (r1 : Int) (r2 : Int) (r3 : List (S26)) (w : World) (h : snowlinelaw01_example.f  = some (r1, r2, r3)) :
  Calls Tryd.prog 66 #[] w fun e w' => ∃ v2_ : Value, e = .returned (.agg #[.int .i64 r1, .int .i64 r2, v2_]) ∧ Kd.R k26 26 w' w.heap.size (fun _ => True) v2_ r3 ∧ Below w.heap.size w w' := by
 have hu24 := Tryd.underlying24
 have hu26 := Tryd.underlying26
 have HB := Bw.mk (Below.refl w.heap.size w)
 have H : (some (0, 0, (([(⟨10, 10, 0, 0⟩ : S26)] : List (S26))))) = some (r1, r2, r3) := h
 clear h
 obtain ⟨y322, hy322⟩ : ∃ y_ : List (S26), y_ = (([(⟨10, 10, 0, 0⟩ : S26)] : List (S26))) := ⟨_, rfl⟩
 replace H : (some (0, 0, y322)) = some (r1, r2, r3) := by first | (rw [hy322]; with_reducible exact H) | (have H2_ := (Option.bind_some _ _).symm.trans H; rw [hy322]; with_reducible exact H2_) | (have H2_ := (Option.bind_some _ _).symm.trans H; with_reducible exact H2_) | with_reducible exact H | (rw [hy322]; exact H) | exact H
 have Ny322 := Aside0.mk (hy322)
 clear hy322
 simp only [Option.some.injEq, Prod.mk.injEq] at H
 obtain ⟨rfl, rfl, rfl⟩ := H
 go_enter Tryd.func66, Tryd.ntmps66
 go_wp2_with (first | ((with_reducible refine gate_dst (N := 0) rfl ?_); refine bxE 0 24 #[.int .i64 0, .int .i64 0, .slice none 0 0] (by rfl) (by rfl) (by first | (go_simp; done) | (go_simp; rfl)) ?_; intro gb321 hg w1 hbox hb; have BK321 := Bk.mk (hbox); have GE321 := eB w hg; replace HB := bS w hb; clear hb hbox hg) | ((with_reducible refine gate_dst (N := 2) rfl ?_); refine Kd.R_lit k26 _ 26 ?hg (N := 2) ?hd (xs := ([(⟨10, 10, 0, 0⟩ : S26)] : List (S26))) (inner := [.int .i64 10, .int .i64 10, .int .i64 0, .int .i64 0]) (ok := fun _ => True) (okp := fun _ => True) ?hr ?hp (fun _ hk => hk) trivial (Below.refl _ _) (Nat.le_refl _) (by simp) ?_; (case hd => rfl); (case hg => rfl); (case hr => first | (go_simp; done) | (go_simp; rfl)); (case hp => exact (Reps.c4 (show Kd.M k26 _ _ _ (⟨10, 10, 0, 0⟩ : S26) [.int .i64 10, .int .i64 10, .int .i64 0, .int .i64 0] from (k26_mkM _ _ _ (⟨10, 10, 0, 0⟩ : S26) )) (Reps.none _ _))); intro v323 w2 ho3 hb hg_ hnew_; clear hg_ hnew_; (first | rw [← Ny322.out] at ho3 | (simp only [Int.reduceToNat] at ho3; rw [← Ny322.out] at ho3)); have n0_ := Aside0.mk (Kd.R_lower ho3 (bz w)); replace BK321 := kB gb321 hb; replace HB := bS w hb; have HO324 := n0_; clear n0_ hb ho3; obtain ⟨Ao4, co4, eo4⟩ := Kd.R_slice HO324.out; subst eo4; obtain ⟨hcz5_0, hcz5_1, hcz5_2, hfz5_0, hfz5_1, hfz5_2⟩ := cz3 BK321))
 all_goals (refine bodyPost_ret (results_cell_row rfl _ _ gb321 24 #[.int .i64 0, .int .i64 0, .slice Ao4 y322.length co4] (0, 0) _ rfl (bko gb321 (by rfl)) Tryd.underlying24 rfl (by kernel_rfl)) rfl ?_; exact ⟨_, by first | rfl | (simp [errW_none, errW_some] <;> rfl) | (simp [*, errW_none, errW_some] <;> rfl), by (with_reducible repeat (first | apply Kd.R_alloc | apply Kd.R_drewN | apply Kd.R_drew)); exact Kd.R_mono (Kd.R_far (p := ⟨gb321, 2, none⟩) (Kd.R_far (p := ⟨gb321, 1, none⟩) (Kd.R_far (p := ⟨gb321, 0, none⟩) (Kd.R_types HO324.out BK321.out (by decide)) (fun _ hk => hk.2) (.int .i64 0)) (fun _ hk => hk.2) (.int .i64 0)) (fun _ hk => hk.2) (.slice Ao4 y322.length co4)) (fun _ hk => trivial), bw w⟩)
def snowlinelaw01_sheet.f  : Option (Int × Int × Int × Int × Int × Int × Int × Int × (List (S71))) := some (1, 2, 10, 11, 0, 10, 100, 10, (([(⟨300, 200, 1155, 40, 5⟩ : S71)] : List (S71))))
set_option maxHeartbeats 8000000 in
set_option maxRecDepth 100000 in
theorem snowlinelaw01_sheet.calls  (r1 : Int) (r2 : Int) (r3 : Int) (r4 : Int) (r5 : Int) (r6 : Int) (r7 : Int) (r8 : Int) (r9 : List (S71)) (w : World) (h : snowlinelaw01_sheet.f  = some (r1, r2, r3, r4, r5, r6, r7, r8, r9)) :
  Calls Tryd.prog 67 #[] w fun e w' => ∃ v8_ : Value, e = .returned (.agg #[.int .i64 r1, .int .i64 r2, .int .i64 r3, .int .i64 r4, .int .i64 r5, .int .i64 r6, .int .i64 r7, .int .i64 r8, v8_]) ∧ Kd.R k71 71 w' w.heap.size (fun _ => True) v8_ r9 ∧ Below w.heap.size w w' := by
 have hu47 := Tryd.underlying47
 have hu71 := Tryd.underlying71
 have HB := Bw.mk (Below.refl w.heap.size w)
 have H : (some (1, 2, 10, 11, 0, 10, 100, 10, (([(⟨300, 200, 1155, 40, 5⟩ : S71)] : List (S71))))) = some (r1, r2, r3, r4, r5, r6, r7, r8, r9) := h
 clear h
 obtain ⟨y326, hy326⟩ : ∃ y_ : List (S71), y_ = (([(⟨300, 200, 1155, 40, 5⟩ : S71)] : List (S71))) := ⟨_, rfl⟩
 replace H : (some (1, 2, 10, 11, 0, 10, 100, 10, y326)) = some (r1, r2, r3, r4, r5, r6, r7, r8, r9) := by first | (rw [hy326]; with_reducible exact H) | (have H2_ := (Option.bind_some _ _).symm.trans H; rw [hy326]; with_reducible exact H2_) | (have H2_ := (Option.bind_some _ _).symm.trans H; with_reducible exact H2_) | with_reducible exact H | (rw [hy326]; exact H) | exact H
 have Ny326 := Aside0.mk (hy326)
 clear hy326
 simp only [Option.some.injEq, Prod.mk.injEq] at H
 obtain ⟨rfl, rfl, rfl, rfl, rfl, rfl, rfl, rfl, rfl⟩ := H
 go_enter Tryd.func67, Tryd.ntmps67
 go_wp2_with (first | ((with_reducible refine gate_dst (N := 0) rfl ?_); refine bxE 0 47 #[.int .i64 0, .int .i64 0, .int .i64 0, .int .i64 0, .int .i64 0, .int .i64 0, .int .i64 0, .int .i64 0, .slice none 0 0] (by rfl) (by rfl) (by first | (go_simp; done) | (go_simp; rfl)) ?_; intro gb325 hg w1 hbox hb; have BK325 := Bk.mk (hbox); have GE325 := eB w hg; replace HB := bS w hb; clear hb hbox hg) | ((with_reducible refine gate_dst (N := 2) rfl ?_); refine Kd.R_lit k71 _ 71 ?hg (N := 2) ?hd (xs := ([(⟨300, 200, 1155, 40, 5⟩ : S71)] : List (S71))) (inner := [.int .i64 300, .int .i64 200, .int .i64 1155, .int .i64 40, .int .i64 5]) (ok := fun _ => True) (okp := fun _ => True) ?hr ?hp (fun _ hk => hk) trivial (Below.refl _ _) (Nat.le_refl _) (by simp) ?_; (case hd => rfl); (case hg => rfl); (case hr => first | (go_simp; done) | (go_simp; rfl)); (case hp => exact (Reps.c5 (show Kd.M k71 _ _ _ (⟨300, 200, 1155, 40, 5⟩ : S71) [.int .i64 300, .int .i64 200, .int .i64 1155, .int .i64 40, .int .i64 5] from (k71_mkM _ _ _ (⟨300, 200, 1155, 40, 5⟩ : S71) )) (Reps.none _ _))); intro v327 w2 ho3 hb hg_ hnew_; clear hg_ hnew_; (first | rw [← Ny326.out] at ho3 | (simp only [Int.reduceToNat] at ho3; rw [← Ny326.out] at ho3)); have n0_ := Aside0.mk (Kd.R_lower ho3 (bz w)); replace BK325 := kB gb325 hb; replace HB := bS w hb; have HO328 := n0_; clear n0_ hb ho3; obtain ⟨Ao4, co4, eo4⟩ := Kd.R_slice HO328.out; subst eo4; obtain ⟨hcz5_0, hcz5_1, hcz5_2, hcz5_3, hcz5_4, hcz5_5, hcz5_6, hcz5_7, hcz5_8, hfz5_0, hfz5_1, hfz5_2, hfz5_3, hfz5_4, hfz5_5, hfz5_6, hfz5_7, hfz5_8⟩ := cz9 BK325))
 all_goals (refine bodyPost_ret (results_cell_row rfl _ _ gb325 47 #[.int .i64 1, .int .i64 2, .int .i64 10, .int .i64 11, .int .i64 0, .int .i64 10, .int .i64 100, .int .i64 10, .slice Ao4 y326.length co4] (0, 0) _ rfl (bko gb325 (by rfl)) Tryd.underlying47 rfl (by kernel_rfl)) rfl ?_; exact ⟨_, by first | rfl | (simp [errW_none, errW_some] <;> rfl) | (simp [*, errW_none, errW_some] <;> rfl), by (with_reducible repeat (first | apply Kd.R_alloc | apply Kd.R_drewN | apply Kd.R_drew)); exact Kd.R_mono (Kd.R_far (p := ⟨gb325, 8, none⟩) (Kd.R_far (p := ⟨gb325, 7, none⟩) (Kd.R_far (p := ⟨gb325, 6, none⟩) (Kd.R_far (p := ⟨gb325, 5, none⟩) (Kd.R_far (p := ⟨gb325, 4, none⟩) (Kd.R_far (p := ⟨gb325, 3, none⟩) (Kd.R_far (p := ⟨gb325, 2, none⟩) (Kd.R_far (p := ⟨gb325, 1, none⟩) (Kd.R_far (p := ⟨gb325, 0, none⟩) (Kd.R_types HO328.out BK325.out (by decide)) (fun _ hk => hk.2) (.int .i64 1)) (fun _ hk => hk.2) (.int .i64 2)) (fun _ hk => hk.2) (.int .i64 10)) (fun _ hk => hk.2) (.int .i64 11)) (fun _ hk => hk.2) (.int .i64 0)) (fun _ hk => hk.2) (.int .i64 10)) (fun _ hk => hk.2) (.int .i64 100)) (fun _ hk => hk.2) (.int .i64 10)) (fun _ hk => hk.2) (.slice Ao4 y326.length co4)) (fun _ hk => trivial), bw w⟩)
end Go.Proofs.YtapijkdgkajoeaaDoor.PF
end
section
namespace Go.Proofs.YtapijkdgkajoeaaDoor.PF
open Go.RowKit Go.Proofs.YtapijkdgkajoeaaDoorW.PrintWords Go.Proofs.YtapijkdgkajoeaaDoorW.PrintLast Go.Proofs.YtapijkdgkajoeaaDoorW.PrintMore
open Go.Shelf
set_option linter.unusedVariables false
theorem sizeB : (Tryd.prog.info? 142).map (·.size) = some 2 := by kernel_rfl
theorem liesB : liesAt Tryd.prog Tryd.prog.depth 144 (2 / Tryd.prog.cellsOf 144) 0 142 1 = true := by kernel_rfl
theorem infoU : (Tryd.prog.info? 5).map (fun i => (i.zero, i.size, i.bytes)) = some (some (.int .u8 0), 1, 1) := by kernel_rfl
theorem cellsU : Tryd.prog.cellsOf 5 = 1 := by kernel_rfl
def KeptT (b : Nat) (w w' : World) : Prop := ∀ k cs T fr, w.heap[k]? = some (.cells cs T fr) → T ≠ 5 → k ≠ b → w'.heap[k]? = some (.cells cs T fr)
theorem KeptT.refl (b : Nat) (w : World) : KeptT b w w := fun _ _ _ _ h _ _ => h
theorem KeptT.trans {b : Nat} {w w1 w2 : World} (h : KeptT b w w1) (h' : KeptT b w1 w2) : KeptT b w w2 := fun k cs T fr e t n => h' k cs T fr (h k cs T fr e t n) t n
theorem KeptT.below {b : Nat} {w w' : World} (h : Below w.heap.size w w') : KeptT b w w' := fun _ _ _ _ e _ _ => blk_below e h
theorem KeptT.set {b : Nat} {w w1 : World} (h : KeptT b w w1) (j : Nat) (u : Value) : KeptT b w (w1.setCell ⟨b, j, none⟩ u) := fun k cs T fr e t n => by
  rw [Below.heap_setCell _ _ _ _ n]
  exact h k cs T fr e t n
theorem builder_below {B b : Nat} {p : Value} {bs : List Value} {w w' : World} (h : Lib.BuilderAt 144 5 B b p bs w) (hb : Below w.heap.size w w') : Lib.BuilderAt 144 5 B b p bs w' := by
  obtain ⟨hB, v, hbk, hown, hne⟩ := h
  refine ⟨hB, v, blk_below hbk hb, own_move hown (fun k hk => ?_), hne⟩
  obtain ⟨cells, hc⟩ := own_typed hown k hk
  rw [hc]
  exact blk_below hc hb
theorem isBuilder_below {B b : Nat} {bs : List Value} {w w' : World} (h : Lib.IsBuilder 144 5 B b bs w) (hb : Below w.heap.size w w') : Lib.IsBuilder 144 5 B b bs w' := h.imp (fun h => builder_below h hb) (fun h => builder_below h hb)
set_option maxHeartbeats 1000000 in
set_option maxRecDepth 100000 in
theorem copyCheck_used (b : Nat) (w : World) (h0 : w.cell? ⟨b, 0, none⟩ = some (.pointer (some ⟨b, 0, none⟩))) :
    Calls Tryd.prog 137 #[.pointer (some ⟨b, 0, none⟩)] w fun e w' => e = .returned (.tuple #[]) ∧ w' = w := by
  obtain ⟨j, hj, _⟩ := Option.map_eq_some_iff.1 sizeB
  have t142 := Tryd.underlying142
  have t139 := Tryd.underlying139
  go_enter Tryd.func137, Tryd.ntmps137
  go_wp2
  rw [Lib.run_neq_ptr_same w _ Tryd.underlying139 hj]
  go_wp2
  go_end0
  exact ⟨rfl, rfl⟩
set_option maxHeartbeats 1000000 in
set_option maxRecDepth 100000 in
theorem copyCheck_fresh (b : Nat) (w : World) (h0 : w.cell? ⟨b, 0, none⟩ = some (.pointer none)) (hsh : w.shape? b = some (144, 2)) (hfz : w.frozen? ⟨b, 0, none⟩ = false) :
    Calls Tryd.prog 137 #[.pointer (some ⟨b, 0, none⟩)] w fun e w' => e = .returned (.tuple #[]) ∧ w' = w.setCell ⟨b, 0, none⟩ (.pointer (some ⟨b, 0, none⟩)) := by
  obtain ⟨j, hj, hjs⟩ := Option.map_eq_some_iff.1 sizeB
  have t142 := Tryd.underlying142
  have t139 := Tryd.underlying139
  have t161 := Tryd.underlying161
  go_enter Tryd.func137, Tryd.ntmps137
  go_wp2
  rw [Lib.run_to_unsafe w ⟨b, 0, none⟩ Tryd.underlying139 Tryd.underlying161 hj (by rw [hjs]; decide) hsh (Nat.zero_lt_succ 1)]
  simp only [Result.andThen]
  rw [Oper.upon_value]
  go_wp2
  rw [run_callFunc_extern Tryd.func140 (by kernel_rfl) (by kernel_rfl) (by kernel_rfl) (e := Extern.AbiNoEscape.same) (by kernel_rfl)]
  rw [Lib.run_noEscape]
  simp only [Result.andThen]
  rw [Oper.upon_value]
  go_wp2
  rw [Lib.run_from_unsafe w ⟨b, 0, none⟩ Tryd.underlying161 Tryd.underlying139 hj hsh liesB]
  simp only [Result.andThen]
  rw [Oper.upon_value]
  go_wp2
  go_end0
  exact ⟨rfl, rfl⟩
theorem copyCheck_calls (B b : Nat) (bs : List Value) (w : World) (h : Lib.IsBuilder 144 5 B b bs w) :
    Calls Tryd.prog 137 #[.pointer (some ⟨b, 0, none⟩)] w fun e w' => e = .returned (.tuple #[]) ∧ (Lib.BuilderAt 144 5 B b (.pointer (some ⟨b, 0, none⟩)) bs w' ∧ Below B w w' ∧ KeptT b w w') := by
  rcases h with h | h
  · refine (copyCheck_fresh b w h.cell0 h.shape h.frozen0).mono ?_
    rintro e w' ⟨rfl, rfl⟩
    exact ⟨rfl, h.used _, (Below.refl B w).setCell (p := ⟨b, 0, none⟩) h.1 _, (KeptT.refl b w).set 0 _⟩
  · refine (copyCheck_used b w h.cell0).mono ?_
    rintro e w' ⟨rfl, rfl⟩
    exact ⟨rfl, h, Below.refl B _, KeptT.refl b _⟩
set_option maxHeartbeats 2000000 in
set_option maxRecDepth 100000 in
theorem WriteString_calls (B b : Nat) (bs : List Value) (s : ByteArray) (w : World) (h : Lib.IsBuilder 144 5 B b bs w) (hlen : bs.length + s.size ≤ 140737488355328) (hBw : B ≤ w.heap.size) :
    Calls Tryd.prog 125 #[.pointer (some ⟨b, 0, none⟩), .string s] w fun e w' => e = .returned (.tuple #[.int .i64 s.size, .nilIface]) ∧ (Lib.BuilderAt 144 5 B b (.pointer (some ⟨b, 0, none⟩)) (bs ++ Lib.strCells s) w' ∧ Below B w w' ∧ KeptT b w w') := by
  obtain ⟨i0, hi, hz0, hz1, hz2⟩ := info_parts infoU
  have t142 := Tryd.underlying142
  have t139 := Tryd.underlying139
  have t140 := Tryd.underlying140
  go_enter Tryd.func125, Tryd.ntmps125
  go_wp2_with (go_at_call 137; refine (copyCheck_calls B b bs _ h).mono ?_)
  rintro e w1 ⟨rfl, h1, hb1, hk1⟩
  obtain ⟨hB, v, hbk, hown, hne⟩ := h1
  have c0 : w1.cell? ⟨b, 0, none⟩ = some (.pointer (some ⟨b, 0, none⟩)) := by rw [Lib.cell_of_heap hbk]; rfl
  have c1 : w1.cell? ⟨b, 1, none⟩ = some v := by rw [Lib.cell_of_heap hbk]; rfl
  go_wp2_with (at_builtin; refine Lib.wpList_append_own_string _ rfl _ _ 140 9 rfl B 5 i0 Tryd.underlying140 Tryd.underlying9 hi hz0 hz1 hz2 _ _ _ rfl hown s rfl ?c3 ?c4 ?c5 ?_)
  case c3 => unfold maxLen; omega
  case c4 => omega
  case c5 => have := hb1.size; omega
  intro v' w2 hown' hgrow _
  have hlt : b < w1.heap.size := by
    rcases Nat.lt_or_ge b w1.heap.size with h' | h'
    · exact h'
    · simp [Array.getElem?_eq_none h'] at hbk
  have hb2 : w2.heap[b]? = some (.cells #[.pointer (some ⟨b, 0, none⟩), v] 144 (0, 0)) := by
    rw [hgrow.block b hlt (fun e => hne e.symm)]
    exact hbk
  have d0 : w2.cell? ⟨b, 0, none⟩ = some (.pointer (some ⟨b, 0, none⟩)) := by rw [Lib.cell_of_heap hb2]; rfl
  have d1 : w2.cell? ⟨b, 1, none⟩ = some v := by rw [Lib.cell_of_heap hb2]; rfl
  have f1 : w2.frozen? ⟨b, 1, none⟩ = false := Lib.frozen_of_heap hb2 1
  have k2 : KeptT b w1 w2 := fun k cs T fr e t n => by
    rw [hgrow.block k (blk_lt e) (fun e' => ?_)]
    · exact e
    · obtain ⟨cells, hc⟩ := own_typed hown k e'.symm
      rw [hc] at e
      simp only [Option.some.injEq, Obj.cells.injEq] at e
      exact t e.2.1.symm
  obtain ⟨ao, n', cap, rfl⟩ : ∃ ao n' cap, v' = .slice ao n' cap := by
    rcases hown'.2 with ⟨hv, _⟩ | ⟨g, cap, cur, hv, _⟩
    · exact ⟨_, _, _, hv⟩
    · exact ⟨_, _, _, hv⟩
  go_wp2
  go_ret2
  refine ⟨rfl, ?_, ?_, ?_⟩
  · exact Lib.BuilderAt.put (T := 144) (e := 5) hB hb2 (bs' := bs ++ Lib.strCells s) (by simpa [Lib.strCells_length] using hown') (by decide)
  · exact (hb1.grown hgrow (by have := hb1.size; omega) (fun k hk => (hown.lt k hk).1)).setCell (p := ⟨b, 1, none⟩) hB _
  · exact (hk1.trans k2).set 1 _
set_option maxHeartbeats 1000000 in
set_option maxRecDepth 100000 in
theorem String_calls (B b : Nat) (l : List UInt8) (w : World) (h : Lib.IsBuilder 144 5 B b (Lib.byteCells l) w) (h0 : l ≠ []) :
    Calls Tryd.prog 127 #[.pointer (some ⟨b, 0, none⟩)] w fun e w' => e = .returned (.string ⟨l.toArray⟩) ∧ Below B w w' := by
  obtain ⟨p, hB, v, hbk, hown, hne⟩ : ∃ p, Lib.BuilderAt 144 5 B b p (Lib.byteCells l) w := by
    rcases h with h | h
    · exact ⟨_, h⟩
    · exact ⟨_, h⟩
  have hl0 : l.length ≠ 0 := by simpa using h0
  rw [Lib.byteCells_length] at hown
  obtain ⟨g, cap, cur, rfl, hbg, hg, hnc, hcm, hcs, htake⟩ : ∃ g cap cur, v = .slice (some ⟨g, 0, none⟩) l.length cap ∧ B ≤ g ∧ w.heap[g]? = some (.cells cur 5 (0, 0)) ∧ l.length ≤ cap ∧ cap ≤ maxLen ∧ cur.size = cap * 1 ∧ cur.toList.take (l.length * 1) = Lib.byteCells l := by
    rcases hown.2 with ⟨_, hz⟩ | ⟨g, cap, cur, hv, r⟩
    · exact absurd hz hl0
    · exact ⟨g, cap, cur, hv, r⟩
  have c1 : w.drew.cell? ⟨b, 1, none⟩ = some (.slice (some ⟨g, 0, none⟩) l.length cap) := by
    have : w.drew.heap[b]? = some (.cells #[p, .slice (some ⟨g, 0, none⟩) l.length cap] 144 (0, 0)) := hbk
    rw [Lib.cell_of_heap this]; rfl
  have hSD : (Builtin.unsafeSliceData_ #[140] 159 #[.slice (some ⟨g, 0, none⟩) l.length cap]).run Tryd.prog w.drew = .ok (.pointer (some ⟨g, 0, none⟩)) w.drew :=
    Lib.run_unsafeSliceData_row _ _ _ _ _ _ (by omega)
  have hUS : (Builtin.unsafeString_ #[159, 3] 9 #[.pointer (some ⟨g, 0, none⟩), .int .i64 l.length]).run Tryd.prog w.drew = .ok (.string ⟨l.toArray⟩) (w.drew.freeze ⟨g, 0, none⟩ l.length) := by
    refine Lib.run_unsafeString_row w.drew 159 3 9 5 Tryd.underlying159 cellsU g cur.size (by have hg' : w.drew.heap[g]? = some (.cells cur 5 (0, 0)) := hg; simp [World.shape?, hg']) l h0 (by omega) (by unfold maxLen at hcm; omega) ?_
    intro j x hx
    have := hown.cells (g := g) rfl j (.int .u8 x.toNat) (by simp [Lib.byteCells, hx])
    exact this
  have t142 := Tryd.underlying142
  have t139 := Tryd.underlying139
  have t140 := Tryd.underlying140
  have t159 := Tryd.underlying159
  have mixed : Tryd.prog.follows Departure.mixedOrders = true := by kernel_rfl
  go_enter Tryd.func127, Tryd.ntmps127
  go_wp2
  go_region_o
  all_goals (go_wp2; go_ret; exact ⟨rfl, Lib.below_freeze (Below.drew (Below.refl B w)) (p := ⟨g, 0, none⟩) hbg _⟩)
end Go.Proofs.YtapijkdgkajoeaaDoor.PF
end
section
namespace Go.Proofs
open Go.Shelf
def Tryd.laysM171_ren : Go.Shelf.Ren := ⟨fun | 171 => 138 | 243 => 141 | 246 => 142 | 283 => 143 | 284 => 144 | 285 => 145 | 286 => 146 | 129 => 148 | 317 => 147 | 318 => 149 | 319 => 150 | 320 => 151 | 337 => 152 | 338 => 153 | n => n, fun | 3 => 3 | 9 => 9 | 2 => 2 | 4 => 4 | 171 => 164 | 0 => 0 | 53 => 165 | 37 => 140 | 5 => 5 | 173 => 168 | 212 => 172 | 51 => 173 | 20 => 20 | 213 => 174 | 46 => 137 | 232 => 177 | 233 => 178 | n => n, fun | 17 => 0 | 18 => 1 | 19 => 2 | n => n⟩
theorem Tryd.laysM171 : Go.Proofs.LaysM.n171 Tryd.prog Tryd.laysM171_ren := {
  mixed := by kernel_rfl
  f129 := Tryd.func148.trans (congrArg some (by kernel_rfl))
  f171 := Tryd.func138.trans (congrArg some (by kernel_rfl))
  f243 := Tryd.func141.trans (congrArg some (by kernel_rfl))
  f246 := Tryd.func142.trans (congrArg some (by kernel_rfl))
  f283 := Tryd.func143.trans (congrArg some (by kernel_rfl))
  f284 := Tryd.func144.trans (congrArg some (by kernel_rfl))
  f285 := Tryd.func145.trans (congrArg some (by kernel_rfl))
  f286 := Tryd.func146.trans (congrArg some (by kernel_rfl))
  f317 := Tryd.func147.trans (congrArg some (by kernel_rfl))
  f318 := Tryd.func149.trans (congrArg some (by kernel_rfl))
  f319 := Tryd.func150.trans (congrArg some (by kernel_rfl))
  f320 := Tryd.func151.trans (congrArg some (by kernel_rfl))
  f337 := Tryd.func152.trans (congrArg some (by kernel_rfl))
  f338 := Tryd.func153.trans (congrArg some (by kernel_rfl))
  t0 := Tryd.underlying0
  a0 := Tryd.isAgg0
  z0 := Tryd.sizeOf0
  v0 := Tryd.zeroValue0
  t2 := Tryd.underlying2
  a2 := Tryd.isAgg2
  z2 := Tryd.sizeOf2
  v2 := Tryd.zeroValue2
  t3 := Tryd.underlying3
  a3 := Tryd.isAgg3
  z3 := Tryd.sizeOf3
  v3 := Tryd.zeroValue3
  t4 := Tryd.underlying4
  a4 := Tryd.isAgg4
  z4 := Tryd.sizeOf4
  v4 := Tryd.zeroValue4
  t5 := Tryd.underlying5
  a5 := Tryd.isAgg5
  z5 := Tryd.sizeOf5
  v5 := Tryd.zeroValue5
  t9 := Tryd.underlying9
  a9 := Tryd.isAgg9
  z9 := Tryd.sizeOf9
  v9 := Tryd.zeroValue9
  t20 := Tryd.underlying20
  a20 := Tryd.isAgg20
  z20 := Tryd.sizeOf20
  v20 := Tryd.zeroValue20
  t37 := Tryd.underlying140
  a37 := Tryd.isAgg140
  z37 := Tryd.sizeOf140
  v37 := Tryd.zeroValue140
  t46 := Tryd.underlying137
  a46 := Tryd.isAgg137
  z46 := Tryd.sizeOf137
  v46 := Tryd.zeroValue137
  t51 := Tryd.underlying173
  a51 := Tryd.isAgg173
  z51 := Tryd.sizeOf173
  v51 := Tryd.zeroValue173
  t53 := Tryd.underlying165
  a53 := Tryd.isAgg165
  z53 := Tryd.sizeOf165
  v53 := Tryd.zeroValue165
  t171 := Tryd.underlying164
  a171 := Tryd.isAgg164
  z171 := Tryd.sizeOf164
  v171 := Tryd.zeroValue164
  t173 := Tryd.underlying168
  a173 := Tryd.isAgg168
  z173 := Tryd.sizeOf168
  v173 := Tryd.zeroValue168
  t212 := Tryd.underlying172
  a212 := Tryd.isAgg172
  z212 := Tryd.sizeOf172
  v212 := Tryd.zeroValue172
  t213 := Tryd.underlying174
  a213 := Tryd.isAgg174
  z213 := Tryd.sizeOf174
  t232 := Tryd.underlying177
  a232 := Tryd.isAgg177
  z232 := Tryd.sizeOf177
  v232 := Tryd.zeroValue177
  t233 := Tryd.underlying178
  a233 := Tryd.isAgg178
  z233 := Tryd.sizeOf178
  v233 := Tryd.zeroValue178
  g17 := by kernel_rfl
  g18 := by kernel_rfl
  g19 := by kernel_rfl
  i0 := by kernel_rfl
  i2 := by kernel_rfl
  i3 := by kernel_rfl
  i4 := by kernel_rfl
  i5 := by kernel_rfl
  i9 := by kernel_rfl
  i20 := by kernel_rfl
  i37 := by kernel_rfl
  i46 := by kernel_rfl
  i51 := by kernel_rfl
  i53 := by kernel_rfl
  i171 := by kernel_rfl
  i173 := by kernel_rfl
  i212 := by kernel_rfl
  i232 := by kernel_rfl
  i233 := by kernel_rfl
  m17 := by kernel_rfl
  m18 := by kernel_rfl
  m19 := by kernel_rfl }
open Go.RowKit Go.Sort Go.Lib in
theorem Tryd.strconv_Itoa (n : Int) (h0 : -9223372036854775808 ≤ n) (h1 : n ≤ 9223372036854775807) (w : World) (htab : Lib.TabIs Tryd.prog w "internal/strconv.uint64pow10" .u64 Lib.pow10Tab) :
    Calls Tryd.prog 138 #[.int .i64 n] w fun e w' => e = .returned (.string ⟨(Lib.itoa n).toArray⟩) ∧ ∃ k os, w' = grow (w.drewN k) os := Any.strconv_Itoa Tryd.laysM171 n h0 h1 w htab
end Go.Proofs
end
section
namespace Go.Proofs.YtapijkdgkajoeaaDoor.PF
open Go.RowKit Go.Proofs.YtapijkdgkajoeaaDoorW.PrintWords Go.Proofs.YtapijkdgkajoeaaDoorW.PrintLast Go.Proofs.YtapijkdgkajoeaaDoorW.PrintMore
set_option linter.unusedVariables false
set_option linter.unusedSimpArgs false
def putT (sep : List UInt8) (l : List Int) : List UInt8 := l.flatMap fun n => sep ++ Lib.itoa n
theorem putT_snoc (sep : List UInt8) (l : List Int) (n : Int) : putT sep (l ++ [n]) = putT sep l ++ (sep ++ Lib.itoa n) := by simp [putT]
theorem putT_app (sep : List UInt8) (l m : List Int) : putT sep (l ++ m) = putT sep l ++ putT sep m := by simp [putT]
theorem strCells_mk (l : List UInt8) : Lib.strCells ⟨l.toArray⟩ = Lib.byteCells l := by simp [Lib.strCells, Lib.byteCells]
theorem size_mk (l : List UInt8) : (⟨l.toArray⟩ : ByteArray).size = l.length := by simp [ByteArray.size]
theorem byteCells_app (l m : List UInt8) : Lib.byteCells (l ++ m) = Lib.byteCells l ++ Lib.byteCells m := by simp [Lib.byteCells]
theorem Itoa_calls (n : Int) (h0 : -9223372036854775808 ≤ n) (h1 : n ≤ 9223372036854775807) (w : World) (hT : TabH w) :
    Calls Tryd.prog 138 #[.int .i64 n] w fun e w' => e = .returned (.string ⟨(Lib.itoa n).toArray⟩) ∧ Below w.heap.size w w' := by
  refine (Tryd.strconv_Itoa n h0 h1 w hT.out).mono ?_
  rintro e w' ⟨rfl, k, os, rfl⟩
  exact ⟨rfl, Lib.below_grow _ w (Nat.le_refl _) k os⟩
theorem addr_at (g x : Nat) : (⟨g, 0, none⟩ : Addr).add x = ⟨g, x, none⟩ := by
  unfold Addr.add
  split
  · rename_i h
    rw [h]
  · simp
theorem ofUsed {B b : Nat} {bs : List Value} {w : World} (h : Lib.BuilderAt 144 5 B b (.pointer (some ⟨b, 0, none⟩)) bs w) : Lib.IsBuilder 144 5 B b bs w := Or.inr h
theorem c_of_block {w : World} {g : Nat} {l : List Int} {fr : Nat × Nat} (hg : w.heap[g]? = some (.cells (l.map (Value.int .i64)).toArray 3 fr)) (hm : l.length ≤ 9223372036854775807) : Kd.C (Kd.int .i64) w (some ⟨g, 0, none⟩) l.length l := by
  refine ⟨rfl, hm, fun _ => ⟨_, rfl, fun j p hj => ⟨[.int .i64 p], rfl, rfl, fun i u hu => ?_⟩⟩⟩
  match i, hu with
  | 0, hu =>
    obtain rfl := Option.some.inj hu
    have e : (⟨g, 0, none⟩ : Addr).add (j * (Kd.int .i64).sz + 0) = ⟨g, j, none⟩ := by
      have h1 : (Kd.int .i64).sz = 1 := rfl
      rw [h1, Nat.mul_one, Nat.add_zero, addr_at]
    rw [e, Lib.cell_of_heap hg]
    simp [hj]
theorem rd_mem {l : List Int} {x : Int} (h0 : 0 ≤ x) (h1 : x < l.length) : rd l x ∈ l := by
  have e : x.toNat < l.length := by omega
  have : rd l x = l[x.toNat] := by simp [rd, List.getD, e]
  rw [this]
  exact List.getElem_mem e
theorem take_rd {l : List Int} {x : Int} (h0 : 0 ≤ x) (h1 : x < l.length) : l.take (x + 1).toNat = l.take x.toNat ++ [rd l x] := by
  have e : x.toNat < l.length := by omega
  have e2 : rd l x = l[x.toNat] := by simp [rd, List.getD, e]
  have e3 : (x + 1).toNat = x.toNat + 1 := by omega
  rw [e2, e3, List.take_add_one]
  simp [e]
theorem putT_len_take (sep : List UInt8) (l : List Int) (i : Nat) : (putT sep (l.take i)).length ≤ (putT sep l).length := by
  have h := putT_app sep (l.take i) (l.drop i)
  rw [List.take_append_drop] at h
  rw [h, List.length_append]
  omega
theorem tab_B {B : Nat} {w w' : World} (h : TabH w) (hb : Below B w w') (hB : 0 < B) : TabH w' := by
  obtain ⟨h⟩ := h
  refine ⟨?_⟩
  unfold Lib.TabIs World.var? at h ⊢
  rw [tabG] at h ⊢
  simp only [Option.bind_some] at h ⊢
  rw [hb.block 0 hB]
  exact h
set_option maxHeartbeats 4000000 in
set_option maxRecDepth 100000 in
theorem put_calls (B b g : Nat) (bs : List Value) (sep : List UInt8) (c : Nat) (l : List Int) (fr : Nat × Nat) (w : World) (hT : TabH w) (hI : Lib.IsBuilder 144 5 B b bs w)
    (hg : w.heap[g]? = some (.cells (l.map (Value.int .i64)).toArray 3 fr)) (hgb : g ≠ b) (hl : ∀ n ∈ l, -9223372036854775808 ≤ n ∧ n ≤ 9223372036854775807) (hm : l.length ≤ 9223372036854775806)
    (hlen : bs.length + (putT sep l).length ≤ 140737488355328) (hBw : B ≤ w.heap.size) (hB0 : 0 < B) :
    Calls Tryd.prog 126 #[.pointer (some ⟨b, 0, none⟩), .string ⟨sep.toArray⟩, .slice (some ⟨g, 0, none⟩) l.length c] w fun e w' => e = .returned (.tuple #[]) ∧ Lib.IsBuilder 144 5 B b (bs ++ Lib.byteCells (putT sep l)) w' ∧ Below B w w' ∧ KeptT b w w' := by
  have t144 := Tryd.underlying144
  have t157 := Tryd.underlying157
  have t51 := Tryd.underlying51
  go_enter Tryd.func126, Tryd.ntmps126
  go_wp2
  go_loopg [10] l.length (fun kq v10 w' => ∃ x : Int, v10 = .int .i64 x ∧ 0 ≤ x ∧ x ≤ (l.length : Int) ∧ (kq : Int) = l.length - x ∧ Lib.IsBuilder 144 5 B b (bs ++ Lib.byteCells (putT sep (l.take x.toNat))) w' ∧ Below B w w' ∧ KeptT b w w')
  case atStart => exact ⟨0, rfl, by omega, by omega, by omega, by simpa [putT, Lib.byteCells] using hI, Below.refl _ _, KeptT.refl _ _⟩
  case round =>
    obtain ⟨x, rfl, hx0, hx1, hk, hI1, hb1, hk1⟩ := hrel
    by_cases c3 : x < (l.length : Int)
    · have d3 : decide (x < (l.length : Int)) = true := decide_eq_true c3
      have p0 : 0 ≤ x := hx0
      have hC := c_of_block (hk1 g _ _ _ hg (by decide) hgb) (by omega)
      obtain ⟨ad, ea, hxc⟩ := Kd.at_int hC x p0 c3
      cases ea
      replace hxc : wr.cell? ⟨g, x.toNat, none⟩ = some (.int .i64 (rd l x)) := by rw [← addr_at g x.toNat]; exact hxc
      have hmem := hl _ (rd_mem hx0 c3)
      have hpl := putT_len_take sep l (x + 1).toNat
      rw [take_rd hx0 c3, putT_snoc] at hpl
      simp only [List.length_append] at hpl
      replace p0 := eq_true p0
      have q0 := eq_true c3
      go_wp2_with (go_at_call 125; refine (WriteString_calls B b _ ⟨sep.toArray⟩ _ hI1 ?l1 ?s1).mono ?_; (case l1 => rw [size_mk, List.length_append, Lib.byteCells_length]; omega); (case s1 => have := hb1.size; omega); rintro e w1 ⟨rfl, h2, hb2, hk2⟩)
      have hbx := hb1.trans hb2
      have hkx := hk1.trans hk2
      refine start_ (n := 6) (S := fun w' => Lib.BuilderAt 144 5 B b (.pointer (some ⟨b, 0, none⟩)) (bs ++ Lib.byteCells (putT sep (l.take x.toNat)) ++ Lib.strCells ⟨sep.toArray⟩) w' ∧ Below B w w' ∧ KeptT b w w') (ds := [5]) #[false, false, false, false, false, false] (by kernel_rfl) rfl rfl ⟨h2, hbx.drew, hkx⟩ (fun hHeld => ?_)
      refine pure_ (i := 0) (N := some 19) (v := ?_) (a' := ?_) #[true, false, false, false, false, false] rfl rfl (by kernel_rfl) (fun _ _ _ h => h) (Or.inl ⟨by rfl, ?_⟩) ?_ ?_
      rotate_left
      · intro w'
        go_simp
        with_reducible rfl
      rotate_left
      · simp only [Act.put, List.setIfInBounds_toArray, List.set_cons_zero, List.set_cons_succ, i64_w]
        rfl
      refine pure_ (i := 1) (N := some 20) (v := ?_) (a' := ?_) #[true, true, false, false, false, false] rfl rfl (by kernel_rfl) (fun _ _ _ h => h) (Or.inl ⟨by rfl, ?_⟩) ?_ ?_
      rotate_left
      · intro w'
        go_simp
        with_reducible rfl
      rotate_left
      · simp only [Act.put, List.setIfInBounds_toArray, List.set_cons_zero, List.set_cons_succ, i64_w]
        rfl
      refine pure_ (i := 2) (N := some 21) (v := ?_) (a' := ?_) #[true, true, true, false, false, false] rfl rfl (by kernel_rfl) (fun _ _ _ h => h) (Or.inl ⟨by rfl, ?_⟩) ?_ ?_
      rotate_left
      · intro w'
        go_simp
        with_reducible rfl
      rotate_left
      · simp only [Act.put, List.setIfInBounds_toArray, List.set_cons_zero, List.set_cons_succ, i64_w]
        rfl
      refine pure_ (i := 3) (N := some 22) (v := ?_) (a' := ?_) #[true, true, true, true, false, false] rfl rfl (by kernel_rfl) (fun _ _ _ h => h) (Or.inl ⟨by rfl, ?_⟩) ?_ ?_
      rotate_left
      · intro w'
        go_simp
        with_reducible rfl
      rotate_left
      · simp only [Act.put, List.setIfInBounds_toArray, List.set_cons_zero, List.set_cons_succ, i64_w]
        rfl
      refine one_ (i := 4) (N := some 23) #[true, true, true, true, true, false] rfl rfl (by kernel_rfl) (by decide) (fun K hK => ?_)
      obtain ⟨s0, s1, s2⟩ := hHeld
      refine goes_ Tryd.func138 (by kernel_rfl) rfl #[.int .i64 (rd l x)] (by rfl) rfl rfl (by simp only [List.map_toArray, List.map_cons, List.map_nil]; rfl) ?_
      with_reducible refine (Itoa_calls (rd l x) hmem.1 hmem.2 _ (tab_B hT s1 hB0)).mono ?_
      rintro e w3 ⟨rfl, hb3⟩
      refine ⟨_, rfl, ?_⟩
      refine hK.out _ _ ⟨builder_below s0 hb3, s1.trans (hb3.mono (Nat.le_trans hBw s1.size)), s2.trans (KeptT.below hb3)⟩ (fun hHeld => ?_)
      clear hK K
      refine norm_ (a' := ?_) ?_ ?_
      rotate_left
      · show Act.put _ (some 23) _ = _
        simp only [Act.put, List.setIfInBounds_toArray, List.set_cons_zero, List.set_cons_succ, i64_w]
        rfl
      refine last_ (i := 5) (N := some 24) #[true, true, true, true, true, true] rfl rfl (by kernel_rfl) (by decide) (fun K hK => ?_)
      obtain ⟨s0, s1, s2⟩ := hHeld
      refine goes_ Tryd.func125 (by kernel_rfl) rfl #[.pointer (some ⟨b, 0, none⟩), .string ⟨(Lib.itoa (rd l x)).toArray⟩] (by rfl) rfl rfl (by simp only [List.map_toArray, List.map_cons, List.map_nil]; rfl) ?_
      with_reducible refine (WriteString_calls B b _ ⟨(Lib.itoa (rd l x)).toArray⟩ _ (ofUsed s0) (by rw [size_mk, strCells_mk, List.length_append, List.length_append, Lib.byteCells_length, Lib.byteCells_length]; omega) (Nat.le_trans hBw s1.size)).mono ?_
      rintro e w3 ⟨rfl, h4, hb4, hk4⟩
      refine ⟨_, rfl, ?_⟩
      refine hK.out _ _ ?_
      clear hK K
      refine norm_ (a' := ?_) ?_ ?_
      rotate_left
      · show Act.put _ (some 24) _ = _
        simp only [Act.put, List.setIfInBounds_toArray, List.set_cons_zero, List.set_cons_succ, i64_w]
        rfl
      refine done_ (by kernel_rfl) ?_
      go_wp2
      go_roundg (gk - 1)
      case measure => omega
      case rel =>
        refine ⟨x + 1, rfl, by omega, by omega, by omega, ?_, ?_, ?_⟩
        · rw [take_rd hx0 c3, putT_snoc, byteCells_app, byteCells_app, ← strCells_mk sep, ← strCells_mk (Lib.itoa (rd l x)), ← List.append_assoc, ← List.append_assoc]
          exact ofUsed h4
        · exact s1.trans hb4
        · exact s2.trans hk4
    · have d3 : decide (x < (l.length : Int)) = false := decide_eq_false c3
      have ex : x.toNat = l.length := by omega
      rw [ex, List.take_length] at hI1
      go_wp2
      go_end0
      exact ⟨rfl, hI1, hb1, hk1⟩
def stakeT (x : S71) : List UInt8 := putT [32] [x.f0] ++ putT [47] [x.f1, x.f2, x.f3, x.f4]
def sheetT (a0 a1 a2 a3 a4 a5 a6 a7 : Int) (l : List S71) : List UInt8 := ([115, 104, 101, 101, 116] ++ putT [32] [a0, a1, a2, a3, a4, a5, a6, a7]) ++ l.flatMap stakeT
def fit (n : Int) : Bool := decide (-9223372036854775808 ≤ n) && decide (n ≤ 9223372036854775807)
def fitS (x : S71) : Bool := fit x.f0 && fit x.f1 && fit x.f2 && fit x.f3 && fit x.f4
def fitSheet (a0 a1 a2 a3 a4 a5 a6 a7 : Int) (l : List S71) : Bool := [a0, a1, a2, a3, a4, a5, a6, a7].all fit && l.all fitS && decide ((sheetT a0 a1 a2 a3 a4 a5 a6 a7 l).length ≤ 140737488355328) && decide (l.length ≤ 9223372036854775806)
def course_PrintSheet.f (k : Nat) (a0 a1 a2 a3 a4 a5 a6 a7 : Int) (l : List S71) : Option (ByteArray × Int) :=
  (course_CheckSheet.f k a0 a1 a2 a3 a4 a5 a6 a7 l).bind fun e => if e = 0 then (if fitSheet a0 a1 a2 a3 a4 a5 a6 a7 l = true then some (⟨(sheetT a0 a1 a2 a3 a4 a5 a6 a7 l).toArray⟩, 0) else none) else some (⟨#[]⟩, e)
theorem course_PrintSheet.mono : ∀ a0 a1 a2 a3 a4 a5 a6 a7 l k, LeO (course_PrintSheet.f k a0 a1 a2 a3 a4 a5 a6 a7 l) (course_PrintSheet.f (k + 1) a0 a1 a2 a3 a4 a5 a6 a7 l) := by
  intro a0 a1 a2 a3 a4 a5 a6 a7 l k
  unfold course_PrintSheet.f
  exact LeO.bind (course_CheckSheet.mono _ _ _ _ _ _ _ _ _ k) (fun _ => LeO.refl _)
theorem fit_iff {n : Int} (h : fit n = true) : -9223372036854775808 ≤ n ∧ n ≤ 9223372036854775807 := by simpa [fit] using h
theorem box_cells {w : World} {g : Nat} {cs : Array Value} {T : Nat} (h : w.heap[g]? = some (.cells cs T (0, 0))) (j : Nat) (u : Value) (e : cs[j]? = some u) : w.cell? ⟨g, j, none⟩ = some u := (blk_cell h j).trans e
theorem lit_event {P : Program} {ops : Array Oper} {rest : List Oper} {o : Oper} {a : Act} {Q : Exit → Act → World → Prop} {W : World} (hgd : o.guard = none) {N : Tmp} (_hd : o.dst = some N) {cs : Array Value} {e : TypeId} {n : Nat}
    (hrun : (execOp a.eval o).run P W = .ok (.value (.slice (some ⟨W.heap.size, 0, none⟩) n n)) (W.alloc (.cells cs e (0, 0))))
    (h : ∀ g, g = W.heap.size → ∀ w1, w1.heap[g]? = some (.cells cs e (0, 0)) → Below W.heap.size W w1 → wpList P ops Q rest (a.put o.dst (.slice (some ⟨g, 0, none⟩) n n)) w1) : wpList P ops Q (o :: rest) a W :=
  Kd.event_run hgd hrun (h _ rfl _ (blk_new W _) (below_alloc (Below.refl _ _) _))
theorem tab_pos {w : World} (h : TabH w) : 0 < w.heap.size := by
  obtain ⟨h⟩ := h
  unfold Lib.TabIs World.var? at h
  rw [tabG] at h
  simp only [Option.bind_some] at h
  rcases Nat.lt_or_ge 0 w.heap.size with h' | h'
  · exact h'
  · rw [Array.getElem?_eq_none h'] at h
    cases h
theorem rd71_mem {l : List S71} {x : Int} (h0 : 0 ≤ x) (h1 : x < l.length) : rd_T71 l x ∈ l := by
  have e : x.toNat < l.length := by omega
  have : rd_T71 l x = l[x.toNat] := by simp [rd_T71, List.getD, e]
  rw [this]
  exact List.getElem_mem e
theorem take_rd71 {l : List S71} {x : Int} (h0 : 0 ≤ x) (h1 : x < l.length) : l.take (x + 1).toNat = l.take x.toNat ++ [rd_T71 l x] := by
  have e : x.toNat < l.length := by omega
  have e2 : rd_T71 l x = l[x.toNat] := by simp [rd_T71, List.getD, e]
  have e3 : (x + 1).toNat = x.toNat + 1 := by omega
  rw [e2, e3, List.take_add_one]
  simp [e]
theorem take_len (l : List S71) (i : Nat) : ((l.take i).flatMap stakeT).length ≤ (l.flatMap stakeT).length := by
  have h : (l.take i).flatMap stakeT ++ (l.drop i).flatMap stakeT = l.flatMap stakeT := by rw [← List.flatMap_append, List.take_append_drop]
  rw [← h, List.length_append]
  omega
theorem two_new (w : World) (o o' : Obj) : ((w.alloc o).alloc o').heap[w.heap.size]? = some o ∧ ((w.alloc o).alloc o').heap[w.heap.size + 1]? = some o' := by
  have hs : (w.alloc o).heap.size = w.heap.size + 1 := Array.size_push _
  refine ⟨blk_alloc (blk_new w o) o', ?_⟩
  rw [← hs]
  exact blk_new _ _
set_option maxHeartbeats 8000000 in
set_option maxRecDepth 100000 in
theorem course_PrintSheet.calls (k : Nat) (a0 a1 a2 a3 a4 a5 a6 a7 : Int) (A : Option Addr) (c : Nat) (l : List S71) (r1 : ByteArray) (r2 : Int) (w : World) (hT : TabH w) (hr : Kd.C k71 w A l.length l) (hc : l.length ≤ c) (h : course_PrintSheet.f k a0 a1 a2 a3 a4 a5 a6 a7 l = some (r1, r2)) :
    Calls Tryd.prog 68 #[.agg #[.int .i64 a0, .int .i64 a1, .int .i64 a2, .int .i64 a3, .int .i64 a4, .int .i64 a5, .int .i64 a6, .int .i64 a7, .slice A l.length c]] w fun e w' => e = .returned (.tuple #[.string r1, .int .i64 r2]) ∧ Below w.heap.size w w' := by
  have hu47 := Tryd.underlying47
  have hu71 := Tryd.underlying71
  have hu45 := Tryd.underlying45
  have hu51 := Tryd.underlying51
  have hu144 := Tryd.underlying144
  obtain ⟨e, hce, h⟩ := Option.bind_eq_some_iff.1 h
  by_cases he : e = 0
  · subst he
    rw [if_pos rfl] at h
    by_cases hf : fitSheet a0 a1 a2 a3 a4 a5 a6 a7 l = true
    · rw [if_pos hf] at h
      obtain ⟨rfl, rfl⟩ := Prod.mk.inj (Option.some.inj h)
      have hf' := hf
      simp only [fitSheet, Bool.and_eq_true, List.all_eq_true, decide_eq_true_eq] at hf'
      obtain ⟨⟨⟨hn, hs⟩, hlen⟩, hll⟩ := hf'
      have hl0 : 0 < w.heap.size := tab_pos hT
      go_enter Tryd.func68, Tryd.ntmps68
      go_wp2_with (first
        | ((with_reducible refine gate_dst (N := 1) rfl ?_); (try (refine gate_guard (by rfl) ?_; dsimp only)); refine box_event ?hg (N := 1) ?hd (cs := #[.int .i64 a0, .int .i64 a1, .int .i64 a2, .int .i64 a3, .int .i64 a4, .int .i64 a5, .int .i64 a6, .int .i64 a7, .slice A l.length c]) (t := 47) ?hr ?_; (case hd => rfl); (case hg => rfl); (case hr => first | (go_simp; done) | (go_simp; rfl)); intro gb hg w1 hbox hb1; clear hg; have z0 : w1.cell? ⟨gb, 0, none⟩ = some (.int .i64 a0) := box_cells hbox 0 _ rfl; have z1 : w1.cell? ⟨gb, 1, none⟩ = some (.int .i64 a1) := box_cells hbox 1 _ rfl; have z2 : w1.cell? ⟨gb, 2, none⟩ = some (.int .i64 a2) := box_cells hbox 2 _ rfl; have z3 : w1.cell? ⟨gb, 3, none⟩ = some (.int .i64 a3) := box_cells hbox 3 _ rfl; have z4 : w1.cell? ⟨gb, 4, none⟩ = some (.int .i64 a4) := box_cells hbox 4 _ rfl; have z5 : w1.cell? ⟨gb, 5, none⟩ = some (.int .i64 a5) := box_cells hbox 5 _ rfl; have z6 : w1.cell? ⟨gb, 6, none⟩ = some (.int .i64 a6) := box_cells hbox 6 _ rfl; have z7 : w1.cell? ⟨gb, 7, none⟩ = some (.int .i64 a7) := box_cells hbox 7 _ rfl; have z8 : w1.cell? ⟨gb, 8, none⟩ = some (.slice A l.length c) := box_cells hbox 8 _ rfl)
        | (go_at_call 31; refine (course_CheckSheet.calls k a0 a1 a2 a3 a4 a5 a6 a7 A c l 0 _ (Kd.C_below hr hb1) hc hce).mono ?_; rintro e w2 ⟨rfl, hb2⟩; have hs1 : 0 < w1.heap.size := Nat.lt_of_lt_of_le hl0 hb1.size; have hs2 : 0 < w2.heap.size := Nat.lt_of_lt_of_le hs1 hb2.size)
        | ((with_reducible refine gate_dst (N := 5) rfl ?_); (try (refine gate_guard (by rfl) ?_; dsimp only)); refine box_event ?hg (N := 5) ?hd (cs := #[.pointer none, .slice none 0 0]) (t := 144) ?hr ?_; (case hd => rfl); (case hg => rfl); (case hr => first | (go_simp; done) | (go_simp; rfl)); intro b hb w3 hbb hb3; have hbe := Aside0.mk hb; have hbp : 0 < b := Nat.lt_of_lt_of_eq hs2 hb.symm; clear hb; have hI3 : Lib.IsBuilder 144 5 b b [] w3 := Or.inl ⟨Nat.le_refl _, .slice none 0 0, hbb, World.ownsRow_nil _ _ _ _, by simp [Value.ownBlock]⟩))
      go_wp2_with (first
        | (go_at_call 125; refine (WriteString_calls b b [] ⟨[115, 104, 101, 101, 116].toArray⟩ _ hI3 (by decide) (Nat.le_of_lt (blk_lt hbb))).mono ?_; rintro e4 w4 ⟨rfl, h4, hb4, hk4⟩; have hbox4 := hk4 gb _ _ _ (blk_below (blk_below hbox hb2) hb3) (by decide) (by rw [hbe.out]; exact Nat.ne_of_lt (blk_lt (blk_below hbox hb2))); have y0 : w4.cell? ⟨gb, 0, none⟩ = some (.int .i64 a0) := box_cells hbox4 0 _ rfl; have y1 : w4.cell? ⟨gb, 1, none⟩ = some (.int .i64 a1) := box_cells hbox4 1 _ rfl; have y2 : w4.cell? ⟨gb, 2, none⟩ = some (.int .i64 a2) := box_cells hbox4 2 _ rfl; have y3 : w4.cell? ⟨gb, 3, none⟩ = some (.int .i64 a3) := box_cells hbox4 3 _ rfl; have y4 : w4.cell? ⟨gb, 4, none⟩ = some (.int .i64 a4) := box_cells hbox4 4 _ rfl; have y5 : w4.cell? ⟨gb, 5, none⟩ = some (.int .i64 a5) := box_cells hbox4 5 _ rfl; have y6 : w4.cell? ⟨gb, 6, none⟩ = some (.int .i64 a6) := box_cells hbox4 6 _ rfl; have y7 : w4.cell? ⟨gb, 7, none⟩ = some (.int .i64 a7) := box_cells hbox4 7 _ rfl; have y8 : w4.cell? ⟨gb, 8, none⟩ = some (.slice A l.length c) := box_cells hbox4 8 _ rfl)
        | ((with_reducible refine gate_dst (N := 31) rfl ?_); (try (refine gate_guard (by rfl) ?_; dsimp only)); refine lit_event ?hg (N := 31) ?hd (cs := #[.int .i64 a0, .int .i64 a1, .int .i64 a2, .int .i64 a3, .int .i64 a4, .int .i64 a5, .int .i64 a6, .int .i64 a7]) (e := 3) (n := 8) ?hr ?_; (case hd => rfl); (case hg => rfl); (case hr => first | (go_simp; done) | (go_simp; rfl)); intro g5 hg5 w5 hlit hb5; have hge := Aside0.mk hg5; clear hg5; have hbox5 := blk_below hbox4 hb5))
      refine (put_calls b b g5 _ [32] 8 [a0, a1, a2, a3, a4, a5, a6, a7] (0, 0) _ ?t1 (isBuilder_below (ofUsed h4) hb5) hlit ?t2 ?t3 (show 8 ≤ 9223372036854775806 by decide) ?t4 ?t5 hbp).mono ?_
      case t1 => exact tab_B (tab_B (tab_B (tab_B (tab_B hT hb1 hl0) hb2 hs1) hb3 hs2) hb4 hbp) hb5 (Nat.lt_of_lt_of_le hl0 (Nat.le_trans hb1.size (Nat.le_trans hb2.size (Nat.le_trans hb3.size hb4.size))))
      case t2 =>
        rw [hge.out]
        exact Nat.ne_of_gt (Nat.lt_of_lt_of_le (blk_lt hbb) hb4.size)
      case t3 => exact fun n hm => fit_iff (hn n hm)
      case t4 =>
        have hq := hlen
        rw [sheetT, List.length_append, List.length_append] at hq
        rw [strCells_mk, List.nil_append, Lib.byteCells_length]
        exact Nat.le_trans (Nat.le_add_right _ _) hq
      case t5 => exact Nat.le_of_lt (Nat.lt_of_lt_of_le (blk_lt hbb) (Nat.le_trans hb4.size hb5.size))
      rintro e6 w6 ⟨rfl, h6, hb6, hk6⟩
      have hbox6 := hk6 gb _ _ _ hbox5 (by decide) (by rw [hbe.out]; exact Nat.ne_of_lt (blk_lt (blk_below hbox hb2)))
      have v8 : w6.cell? ⟨gb, 8, none⟩ = some (.slice A l.length c) := box_cells hbox6 8 _ rfl
      go_wp2
      have hT6 : ([] ++ Lib.strCells ⟨[115, 104, 101, 101, 116].toArray⟩ : List Value) ++ Lib.byteCells (putT [32] [a0, a1, a2, a3, a4, a5, a6, a7]) = Lib.byteCells (([115, 104, 101, 101, 116] ++ putT [32] [a0, a1, a2, a3, a4, a5, a6, a7]) ++ (l.take (0 : Int).toNat).flatMap stakeT) := by
        rw [strCells_mk, List.nil_append, ← byteCells_app]
        simp
      rw [hT6] at h6
      have hbz : b ≤ w3.heap.size := Nat.le_of_lt (blk_lt hbb)
      have HB6 : Below b w2 w6 := ((((hb3.mono (Nat.le_of_eq hbe.out)).trans hb4).trans (hb5.mono (Nat.le_trans hbz hb4.size))).trans hb6)
      have HW2 : Below w.heap.size w w2 := below_step hb1 hb2
      have hbb6 : b < w6.heap.size := Nat.lt_of_lt_of_le (blk_lt hbb) (Nat.le_trans hb4.size (Nat.le_trans hb5.size hb6.size))
      go_loopg [36] l.length (fun kq v36 w' => ∃ x : Int, v36 = .int .i64 x ∧ 0 ≤ x ∧ x ≤ (l.length : Int) ∧ (kq : Int) = l.length - x ∧ Lib.IsBuilder 144 5 b b (Lib.byteCells (([115, 104, 101, 101, 116] ++ putT [32] [a0, a1, a2, a3, a4, a5, a6, a7]) ++ (l.take x.toNat).flatMap stakeT)) w' ∧ Below b w2 w' ∧ b < w'.heap.size)
      case atStart => exact ⟨0, rfl, by omega, by omega, by omega, h6, HB6, hbb6⟩
      case round =>
        obtain ⟨x, rfl, hx0, hx1, hk, hI1, hbx, hbs⟩ := hrel
        by_cases c3 : x < (l.length : Int)
        · have d3 : decide (x < (l.length : Int)) = true := decide_eq_true c3
          have p0 : 0 ≤ x := hx0
          have hWr : Below w.heap.size w wr := HW2.trans (hbx.mono (by rw [hbe.out]; exact HW2.size))
          obtain ⟨ad, ea, u0, u1, u2, u3, u4⟩ := PF.at_T71 (Kd.C_below hr hWr) x p0 c3
          cases ea
          replace p0 := eq_true p0
          have q0 := eq_true c3
          have hfs := hs _ (rd71_mem hx0 c3)
          simp only [fitS, Bool.and_eq_true] at hfs
          obtain ⟨⟨⟨⟨f0, f1⟩, f2⟩, f3⟩, f4⟩ := hfs
          have htk := take_rd71 hx0 c3
          have hpl := take_len l (x + 1).toNat
          rw [htk, List.flatMap_append, List.length_append] at hpl
          have hps : [rd_T71 l x].flatMap stakeT = putT [32] [(rd_T71 l x).f0] ++ putT [47] [(rd_T71 l x).f1, (rd_T71 l x).f2, (rd_T71 l x).f3, (rd_T71 l x).f4] := by simp [stakeT]
          rw [hps, List.length_append] at hpl
          have hq := hlen
          rw [sheetT, List.length_append] at hq
          have hT8 := tab_B (tab_B (tab_B hT hb1 hl0) hb2 hs1) hbx hbp
          have hB0 := Nat.le_of_lt hbs
          go_wp2_with fail
          have hn7 := two_new wr (.cells #[.int .i64 (rd_T71 l x).f0, .int .i64 (rd_T71 l x).f1, .int .i64 (rd_T71 l x).f2, .int .i64 (rd_T71 l x).f3, .int .i64 (rd_T71 l x).f4] 71) (.cells #[.int .i64 (rd_T71 l x).f0] 3)
          have hb7 : Below wr.heap.size wr ((wr.alloc (.cells #[.int .i64 (rd_T71 l x).f0, .int .i64 (rd_T71 l x).f1, .int .i64 (rd_T71 l x).f2, .int .i64 (rd_T71 l x).f3, .int .i64 (rd_T71 l x).f4] 71)).alloc (.cells #[.int .i64 (rd_T71 l x).f0] 3)) := below_alloc (below_alloc (Below.refl _ _) _) _
          refine (put_calls b b (wr.heap.size + 1) _ [32] 1 [(rd_T71 l x).f0] (0, 0) _ (hT8.below hb7) (isBuilder_below hI1 hb7) hn7.2 (by omega) ?t3 (show 1 ≤ 9223372036854775806 by decide) ?t4 (Nat.le_trans hB0 hb7.size) hbp).mono ?_
          case t3 =>
            intro n hm
            obtain rfl := List.mem_singleton.1 hm
            exact fit_iff f0
          case t4 =>
            rw [Lib.byteCells_length, List.length_append]
            omega
          rintro e8 w8 ⟨rfl, h8, hb8, hk8⟩
          have hst := hk8 _ _ _ _ hn7.1 (by decide) (by omega)
          have s1 : w8.cell? ⟨wr.heap.size, 1, none⟩ = some (.int .i64 (rd_T71 l x).f1) := box_cells hst 1 _ rfl
          have s2 : w8.cell? ⟨wr.heap.size, 2, none⟩ = some (.int .i64 (rd_T71 l x).f2) := box_cells hst 2 _ rfl
          have s3 : w8.cell? ⟨wr.heap.size, 3, none⟩ = some (.int .i64 (rd_T71 l x).f3) := box_cells hst 3 _ rfl
          have s4 : w8.cell? ⟨wr.heap.size, 4, none⟩ = some (.int .i64 (rd_T71 l x).f4) := box_cells hst 4 _ rfl
          rw [← byteCells_app] at h8
          have hbs8 : b < w8.heap.size := Nat.lt_of_lt_of_le hbs (Nat.le_trans hb7.size hb8.size)
          have hT9 := tab_B (hT8.below hb7) hb8 hbp
          go_wp2_with fail
          have hb9 : Below w8.heap.size w8 (w8.alloc (.cells #[.int .i64 (rd_T71 l x).f1, .int .i64 (rd_T71 l x).f2, .int .i64 (rd_T71 l x).f3, .int .i64 (rd_T71 l x).f4] 3)) := below_alloc (Below.refl _ _) _
          refine (put_calls b b w8.heap.size _ [47] 4 [(rd_T71 l x).f1, (rd_T71 l x).f2, (rd_T71 l x).f3, (rd_T71 l x).f4] (0, 0) _ (hT9.below hb9) (isBuilder_below h8 hb9) (blk_new _ _) (by omega) ?r3 (show 4 ≤ 9223372036854775806 by decide) ?r4 (Nat.le_trans (Nat.le_of_lt hbs8) hb9.size) hbp).mono ?_
          case r3 =>
            intro n hm
            simp only [List.mem_cons, List.not_mem_nil, or_false] at hm
            rcases hm with rfl | rfl | rfl | rfl
            · exact fit_iff f1
            · exact fit_iff f2
            · exact fit_iff f3
            · exact fit_iff f4
          case r4 =>
            rw [Lib.byteCells_length, List.length_append, List.length_append]
            omega
          rintro e10 w10 ⟨rfl, h10, hb10, hk10⟩
          rw [← byteCells_app] at h10
          go_wp2
          go_roundg (gk - 1)
          case measure => omega
          case rel =>
            refine ⟨x + 1, rfl, by omega, by omega, by omega, ?_, ?_, ?_⟩
            · rw [htk, List.flatMap_append, hps, ← List.append_assoc, ← List.append_assoc]
              exact h10
            · exact (((hbx.trans (hb7.mono hB0)).trans hb8).trans (hb9.mono (Nat.le_of_lt hbs8))).trans hb10
            · exact Nat.lt_of_lt_of_le hbs8 (Nat.le_trans hb9.size hb10.size)
        · have d3 : decide (x < (l.length : Int)) = false := decide_eq_false c3
          have ex : x.toNat = l.length := by omega
          rw [ex, List.take_length] at hI1
          go_wp2_with fail
          refine (String_calls b b (sheetT a0 a1 a2 a3 a4 a5 a6 a7 l) _ hI1 (by simp [sheetT])).mono ?_
          rintro e8 w8 ⟨rfl, hb8⟩
          go_wp2
          go_ret2
          exact ⟨rfl, (HW2.trans (hbx.mono (by rw [hbe.out]; exact HW2.size))).trans (hb8.mono (by rw [hbe.out]; exact HW2.size))⟩
    · rw [if_neg hf] at h
      cases h
  · rw [if_neg he] at h
    obtain ⟨rfl, rfl⟩ := Prod.mk.inj (Option.some.inj h)
    go_enter Tryd.func68, Tryd.ntmps68
    go_wp2_with (first
      | ((with_reducible refine gate_dst (N := 1) rfl ?_); (try (refine gate_guard (by rfl) ?_; dsimp only)); refine box_event ?hg (N := 1) ?hd (cs := #[.int .i64 a0, .int .i64 a1, .int .i64 a2, .int .i64 a3, .int .i64 a4, .int .i64 a5, .int .i64 a6, .int .i64 a7, .slice A l.length c]) (t := 47) ?hr ?_; (case hd => rfl); (case hg => rfl); (case hr => first | (go_simp; done) | (go_simp; rfl)); intro gb hg w1 hbox hb1; clear hg; have z0 : w1.cell? ⟨gb, 0, none⟩ = some (.int .i64 a0) := box_cells hbox 0 _ rfl; have z1 : w1.cell? ⟨gb, 1, none⟩ = some (.int .i64 a1) := box_cells hbox 1 _ rfl; have z2 : w1.cell? ⟨gb, 2, none⟩ = some (.int .i64 a2) := box_cells hbox 2 _ rfl; have z3 : w1.cell? ⟨gb, 3, none⟩ = some (.int .i64 a3) := box_cells hbox 3 _ rfl; have z4 : w1.cell? ⟨gb, 4, none⟩ = some (.int .i64 a4) := box_cells hbox 4 _ rfl; have z5 : w1.cell? ⟨gb, 5, none⟩ = some (.int .i64 a5) := box_cells hbox 5 _ rfl; have z6 : w1.cell? ⟨gb, 6, none⟩ = some (.int .i64 a6) := box_cells hbox 6 _ rfl; have z7 : w1.cell? ⟨gb, 7, none⟩ = some (.int .i64 a7) := box_cells hbox 7 _ rfl; have z8 : w1.cell? ⟨gb, 8, none⟩ = some (.slice A l.length c) := box_cells hbox 8 _ rfl)
      | (go_at_call 31; refine (course_CheckSheet.calls k a0 a1 a2 a3 a4 a5 a6 a7 A c l e _ (Kd.C_below hr hb1) hc hce).mono ?_; rintro e w2 ⟨rfl, hb2⟩))
    go_ret2
    exact ⟨rfl, below_step hb1 hb2⟩
end Go.Proofs.YtapijkdgkajoeaaDoor.PF
end
section
namespace Go.Proofs.YtapijkdgkajoeaaDoor.PF
open Go.RowKit Go.Proofs.YtapijkdgkajoeaaDoorW.PrintWords Go.Proofs.YtapijkdgkajoeaaDoorW.PrintLast Go.Proofs.YtapijkdgkajoeaaDoorW.PrintMore
attribute [local go_sem] max2_int min2_int max_two min_two
set_option linter.unusedVariables false
set_option linter.unusedSimpArgs false
attribute [local go_sem high] ixA103_1
attribute [local go_sem high] eqA40
def snowlinelaw01_sane.j0 : Nat → List Int → Bool → ByteArray → Bool → Int → Int → Int → Int → Int → Int → Int → Int → Int → Int → Int → Int → Option (Bool)
 | 0, _, _, _, _, _, _, _, _, _, _, _, _, _, _, _, _ => none
 | k + 1, x10, x11, x19, x122, x337000, x337001, x341000, x341001, x352000, x352001, x386000, x386001, x406000, x406001, x426000, x426001 => if x122 = true then (some false) else (if (!(x337000 == (-6)) || (!(x337001 == 7))) = true then (some false) else (if (!(x341000 == (-12)) || (!(x341001 == 12))) = true then (some false) else (if (!(x352000 == 2) || (!(x352001 == 3))) = true then (some false) else (if x11 = true then ((slices_Equal_int_int.f k x10 (([2, 0, 6] : List Int))).bind fun t449 => (if t449 = true then (if (x386000 == 1050 && (x386001 == 1055)) = true then (if (x406000 == 107 && (x406001 == 146)) = true then (if (x426000 == 356 && (x426001 == 485)) = true then (some (x19.toList == ([115, 104, 101, 101, 116, 32, 49, 32, 50, 32, 49, 48, 32, 49, 49, 32, 48, 32, 49, 48, 32, 49, 48, 48, 32, 49, 48, 32, 51, 48, 48, 47, 50, 48, 48, 47, 49, 49, 53, 53, 47, 52, 48, 47, 53] : List UInt8))) else (some false)) else (some false)) else (some false)) else (some false))) else (some false)))))
def snowlinelaw01_sane.f (k : Nat)  : Option (Bool) := (some (([(⟨10, 0, 0, 1⟩ : S26)] : List (S26)) : List (S26))).bind fun y329 => ((course_Drift.f k 0 2 y329 13 0).bind fun bt333 => ((course_Turn.f k 0 2 y329 7 13 0).bind fun bt337 => ((course_AddTest.f k 0 2 y329 13 0 3 3).bind fun bt341 => ((course_Turn.f k bt341.1 bt341.2.1 bt341.2.2.1 10 13 0).bind fun bt348 => ((course_Extend.f k 0 2 ([] : List (S26)) 0 (([1] : List Int)) (([0] : List Int)) (([0, 1, 4] : List Int))).bind fun bt361 => ((snowlinelaw01_example.f).bind fun bt366 => ((snowlinelaw01_sheet.f).bind fun bt371 => ((course_Core.f k bt366.1 bt366.2.1 bt366.2.2 bt371.1 bt371.2.1 bt371.2.2.1 bt371.2.2.2.1 bt371.2.2.2.2.1 bt371.2.2.2.2.2.1 bt371.2.2.2.2.2.2.1 bt371.2.2.2.2.2.2.2.1 bt371.2.2.2.2.2.2.2.2 0 10).bind fun bt382 => ((snowlinelaw01_example.f).bind fun bt386 => ((snowlinelaw01_sheet.f).bind fun bt391 => ((course_Water.f k bt386.1 bt386.2.1 bt386.2.2 bt391.1 bt391.2.1 bt391.2.2.1 bt391.2.2.2.1 bt391.2.2.2.2.1 bt391.2.2.2.2.2.1 bt391.2.2.2.2.2.2.1 bt391.2.2.2.2.2.2.2.1 bt391.2.2.2.2.2.2.2.2 0 10).bind fun bt402 => ((snowlinelaw01_example.f).bind fun bt406 => ((snowlinelaw01_sheet.f).bind fun bt411 => ((course_Density.f k bt406.1 bt406.2.1 bt406.2.2 bt411.1 bt411.2.1 bt411.2.2.1 bt411.2.2.2.1 bt411.2.2.2.2.1 bt411.2.2.2.2.2.1 bt411.2.2.2.2.2.2.1 bt411.2.2.2.2.2.2.2.1 bt411.2.2.2.2.2.2.2.2 0 10).bind fun bt422 => ((snowlinelaw01_sheet.f).bind fun bt426 => ((course_PrintSheet.f k bt426.1 bt426.2.1 bt426.2.2.1 bt426.2.2.2.1 bt426.2.2.2.2.1 bt426.2.2.2.2.2.1 bt426.2.2.2.2.2.2.1 bt426.2.2.2.2.2.2.2.1 bt426.2.2.2.2.2.2.2.2).bind fun bt437 => ((course_AddTest.f k 0 2 y329 12 0 6 7).bind fun bt439 => (if bt333.2.2 = 0 then (if bt337.2.2 = 0 then (if bt341.2.2.2 = 0 then (if bt348.2.2 = 0 then (if bt361.2.2 = 0 then (if bt382.2.2 = 0 then (if bt402.2.2 = 0 then (if bt422.2.2 = 0 then (if bt437.2 = 0 then (snowlinelaw01_sane.j0 k bt361.1 bt361.2.1 bt437.1 (bt439.2.2.2 != 13) bt333.1 bt333.2.1 bt337.1 bt337.2.1 bt348.1 bt348.2.1 bt382.1 bt382.2.1 bt402.1 bt402.2.1 bt422.1 bt422.2.1) else (snowlinelaw01_sane.j0 k bt361.1 bt361.2.1 bt437.1 true bt333.1 bt333.2.1 bt337.1 bt337.2.1 bt348.1 bt348.2.1 bt382.1 bt382.2.1 bt402.1 bt402.2.1 bt422.1 bt422.2.1)) else (snowlinelaw01_sane.j0 k bt361.1 bt361.2.1 bt437.1 true bt333.1 bt333.2.1 bt337.1 bt337.2.1 bt348.1 bt348.2.1 bt382.1 bt382.2.1 bt402.1 bt402.2.1 bt422.1 bt422.2.1)) else (snowlinelaw01_sane.j0 k bt361.1 bt361.2.1 bt437.1 true bt333.1 bt333.2.1 bt337.1 bt337.2.1 bt348.1 bt348.2.1 bt382.1 bt382.2.1 bt402.1 bt402.2.1 bt422.1 bt422.2.1)) else (snowlinelaw01_sane.j0 k bt361.1 bt361.2.1 bt437.1 true bt333.1 bt333.2.1 bt337.1 bt337.2.1 bt348.1 bt348.2.1 bt382.1 bt382.2.1 bt402.1 bt402.2.1 bt422.1 bt422.2.1)) else (snowlinelaw01_sane.j0 k bt361.1 bt361.2.1 bt437.1 true bt333.1 bt333.2.1 bt337.1 bt337.2.1 bt348.1 bt348.2.1 bt382.1 bt382.2.1 bt402.1 bt402.2.1 bt422.1 bt422.2.1)) else (snowlinelaw01_sane.j0 k bt361.1 bt361.2.1 bt437.1 true bt333.1 bt333.2.1 bt337.1 bt337.2.1 bt348.1 bt348.2.1 bt382.1 bt382.2.1 bt402.1 bt402.2.1 bt422.1 bt422.2.1)) else (snowlinelaw01_sane.j0 k bt361.1 bt361.2.1 bt437.1 true bt333.1 bt333.2.1 bt337.1 bt337.2.1 bt348.1 bt348.2.1 bt382.1 bt382.2.1 bt402.1 bt402.2.1 bt422.1 bt422.2.1)) else (snowlinelaw01_sane.j0 k bt361.1 bt361.2.1 bt437.1 true bt333.1 bt333.2.1 bt337.1 bt337.2.1 bt348.1 bt348.2.1 bt382.1 bt382.2.1 bt402.1 bt402.2.1 bt422.1 bt422.2.1)) else (snowlinelaw01_sane.j0 k bt361.1 bt361.2.1 bt437.1 true bt333.1 bt333.2.1 bt337.1 bt337.2.1 bt348.1 bt348.2.1 bt382.1 bt382.2.1 bt402.1 bt402.2.1 bt422.1 bt422.2.1)))))))))))))))))))
theorem snowlinelaw01_sane.mono_l : ∀ k, (∀ y0 y1 y2 y3 y4 y5 y6 y7 y8 y9 y10 y11 y12 y13 y14 y15, LeO (snowlinelaw01_sane.j0 k y0 y1 y2 y3 y4 y5 y6 y7 y8 y9 y10 y11 y12 y13 y14 y15) (snowlinelaw01_sane.j0 (k + 1) y0 y1 y2 y3 y4 y5 y6 y7 y8 y9 y10 y11 y12 y13 y14 y15))
 | 0 => fun _ _ _ _ _ _ _ _ _ _ _ _ _ _ _ _ r h => by simp [snowlinelaw01_sane.j0] at h
 | k + 1 => by
  have ih0 := snowlinelaw01_sane.mono_l k
  ·
   intro y0 y1 y2 y3 y4 y5 y6 y7 y8 y9 y10 y11 y12 y13 y14 y15
   unfold snowlinelaw01_sane.j0
   repeat' first
   | (with_reducible exact ih0 _ _ _ _ _ _ _ _ _ _ _ _ _ _ _ _)
   | (with_reducible exact course_AddTest.mono _ _ _ _ _ _ _ _)
   | (with_reducible exact course_Core.mono _ _ _ _ _ _ _ _ _ _ _ _ _ _ _)
   | (with_reducible exact course_Density.mono _ _ _ _ _ _ _ _ _ _ _ _ _ _ _)
   | (with_reducible exact course_Drift.mono _ _ _ _ _ _)
   | (with_reducible exact course_Extend.mono _ _ _ _ _ _ _ _)
   | (with_reducible exact course_PrintSheet.mono _ _ _ _ _ _ _ _ _ _)
   | (with_reducible exact course_Turn.mono _ _ _ _ _ _ _)
   | (with_reducible exact course_Water.mono _ _ _ _ _ _ _ _ _ _ _ _ _ _ _)
   | (with_reducible exact slices_Equal_int_int.mono _ _ _)
   | (with_reducible exact LeO.refl _)
   | (with_reducible exact LeO.none _)
   | (with_reducible refine LeO.ite ?_ ?_)
   | (with_reducible refine LeO.bind ?_ (fun _ => ?_))
   | exact ih0 _ _ _ _ _ _ _ _ _ _ _ _ _ _ _ _
   | exact course_AddTest.mono _ _ _ _ _ _ _ _
   | exact course_Core.mono _ _ _ _ _ _ _ _ _ _ _ _ _ _ _
   | exact course_Density.mono _ _ _ _ _ _ _ _ _ _ _ _ _ _ _
   | exact course_Drift.mono _ _ _ _ _ _
   | exact course_Extend.mono _ _ _ _ _ _ _ _
   | exact course_PrintSheet.mono _ _ _ _ _ _ _ _ _ _
   | exact course_Turn.mono _ _ _ _ _ _ _
   | exact course_Water.mono _ _ _ _ _ _ _ _ _ _ _ _ _ _ _
   | exact slices_Equal_int_int.mono _ _ _
   | exact LeO.none _
   | refine LeO.ite ?_ ?_
   | refine LeO.bind ?_ (fun _ => ?_)
theorem snowlinelaw01_sane.mono : ∀ k, LeO (snowlinelaw01_sane.f k ) (snowlinelaw01_sane.f (k + 1) ) := by
 intro  k
 have ih0 := snowlinelaw01_sane.mono_l k
 unfold snowlinelaw01_sane.f
 repeat' first
   | (with_reducible exact ih0 _ _ _ _ _ _ _ _ _ _ _ _ _ _ _ _)
   | (with_reducible exact course_AddTest.mono _ _ _ _ _ _ _ _)
   | (with_reducible exact course_Core.mono _ _ _ _ _ _ _ _ _ _ _ _ _ _ _)
   | (with_reducible exact course_Density.mono _ _ _ _ _ _ _ _ _ _ _ _ _ _ _)
   | (with_reducible exact course_Drift.mono _ _ _ _ _ _)
   | (with_reducible exact course_Extend.mono _ _ _ _ _ _ _ _)
   | (with_reducible exact course_PrintSheet.mono _ _ _ _ _ _ _ _ _ _)
   | (with_reducible exact course_Turn.mono _ _ _ _ _ _ _)
   | (with_reducible exact course_Water.mono _ _ _ _ _ _ _ _ _ _ _ _ _ _ _)
   | (with_reducible exact slices_Equal_int_int.mono _ _ _)
   | (with_reducible exact LeO.refl _)
   | (with_reducible exact LeO.none _)
   | (with_reducible refine LeO.ite ?_ ?_)
   | (with_reducible refine LeO.bind ?_ (fun _ => ?_))
   | exact ih0 _ _ _ _ _ _ _ _ _ _ _ _ _ _ _ _
   | exact course_AddTest.mono _ _ _ _ _ _ _ _
   | exact course_Core.mono _ _ _ _ _ _ _ _ _ _ _ _ _ _ _
   | exact course_Density.mono _ _ _ _ _ _ _ _ _ _ _ _ _ _ _
   | exact course_Drift.mono _ _ _ _ _ _
   | exact course_Extend.mono _ _ _ _ _ _ _ _
   | exact course_PrintSheet.mono _ _ _ _ _ _ _ _ _ _
   | exact course_Turn.mono _ _ _ _ _ _ _
   | exact course_Water.mono _ _ _ _ _ _ _ _ _ _ _ _ _ _ _
   | exact slices_Equal_int_int.mono _ _ _
   | exact LeO.none _
   | refine LeO.ite ?_ ?_
   | refine LeO.bind ?_ (fun _ => ?_)
set_option maxHeartbeats 8000000 in
set_option maxRecDepth 100000 in
theorem snowlinelaw01_sane.calls (k : Nat)  (w : World) (hT : TabH w) (h : snowlinelaw01_sane.f k  = some true) :
  Calls Tryd.prog 13 #[] w fun e w' => e = .returned (.bool true) ∧ Below w.heap.size w w' := by
 have hu26 := Tryd.underlying26
 have hu24 := Tryd.underlying24
 have hu40 := Tryd.underlying40
 have HB := Bw.mk (Below.refl w.heap.size w)
 have H : ((some (([(⟨10, 0, 0, 1⟩ : S26)] : List (S26)) : List (S26))).bind fun y329 => ((course_Drift.f k 0 2 y329 13 0).bind fun bt333 => ((course_Turn.f k 0 2 y329 7 13 0).bind fun bt337 => ((course_AddTest.f k 0 2 y329 13 0 3 3).bind fun bt341 => ((course_Turn.f k bt341.1 bt341.2.1 bt341.2.2.1 10 13 0).bind fun bt348 => ((course_Extend.f k 0 2 ([] : List (S26)) 0 (([1] : List Int)) (([0] : List Int)) (([0, 1, 4] : List Int))).bind fun bt361 => ((snowlinelaw01_example.f).bind fun bt366 => ((snowlinelaw01_sheet.f).bind fun bt371 => ((course_Core.f k bt366.1 bt366.2.1 bt366.2.2 bt371.1 bt371.2.1 bt371.2.2.1 bt371.2.2.2.1 bt371.2.2.2.2.1 bt371.2.2.2.2.2.1 bt371.2.2.2.2.2.2.1 bt371.2.2.2.2.2.2.2.1 bt371.2.2.2.2.2.2.2.2 0 10).bind fun bt382 => ((snowlinelaw01_example.f).bind fun bt386 => ((snowlinelaw01_sheet.f).bind fun bt391 => ((course_Water.f k bt386.1 bt386.2.1 bt386.2.2 bt391.1 bt391.2.1 bt391.2.2.1 bt391.2.2.2.1 bt391.2.2.2.2.1 bt391.2.2.2.2.2.1 bt391.2.2.2.2.2.2.1 bt391.2.2.2.2.2.2.2.1 bt391.2.2.2.2.2.2.2.2 0 10).bind fun bt402 => ((snowlinelaw01_example.f).bind fun bt406 => ((snowlinelaw01_sheet.f).bind fun bt411 => ((course_Density.f k bt406.1 bt406.2.1 bt406.2.2 bt411.1 bt411.2.1 bt411.2.2.1 bt411.2.2.2.1 bt411.2.2.2.2.1 bt411.2.2.2.2.2.1 bt411.2.2.2.2.2.2.1 bt411.2.2.2.2.2.2.2.1 bt411.2.2.2.2.2.2.2.2 0 10).bind fun bt422 => ((snowlinelaw01_sheet.f).bind fun bt426 => ((course_PrintSheet.f k bt426.1 bt426.2.1 bt426.2.2.1 bt426.2.2.2.1 bt426.2.2.2.2.1 bt426.2.2.2.2.2.1 bt426.2.2.2.2.2.2.1 bt426.2.2.2.2.2.2.2.1 bt426.2.2.2.2.2.2.2.2).bind fun bt437 => ((course_AddTest.f k 0 2 y329 12 0 6 7).bind fun bt439 => (if bt333.2.2 = 0 then (if bt337.2.2 = 0 then (if bt341.2.2.2 = 0 then (if bt348.2.2 = 0 then (if bt361.2.2 = 0 then (if bt382.2.2 = 0 then (if bt402.2.2 = 0 then (if bt422.2.2 = 0 then (if bt437.2 = 0 then (snowlinelaw01_sane.j0 k bt361.1 bt361.2.1 bt437.1 (bt439.2.2.2 != 13) bt333.1 bt333.2.1 bt337.1 bt337.2.1 bt348.1 bt348.2.1 bt382.1 bt382.2.1 bt402.1 bt402.2.1 bt422.1 bt422.2.1) else (snowlinelaw01_sane.j0 k bt361.1 bt361.2.1 bt437.1 true bt333.1 bt333.2.1 bt337.1 bt337.2.1 bt348.1 bt348.2.1 bt382.1 bt382.2.1 bt402.1 bt402.2.1 bt422.1 bt422.2.1)) else (snowlinelaw01_sane.j0 k bt361.1 bt361.2.1 bt437.1 true bt333.1 bt333.2.1 bt337.1 bt337.2.1 bt348.1 bt348.2.1 bt382.1 bt382.2.1 bt402.1 bt402.2.1 bt422.1 bt422.2.1)) else (snowlinelaw01_sane.j0 k bt361.1 bt361.2.1 bt437.1 true bt333.1 bt333.2.1 bt337.1 bt337.2.1 bt348.1 bt348.2.1 bt382.1 bt382.2.1 bt402.1 bt402.2.1 bt422.1 bt422.2.1)) else (snowlinelaw01_sane.j0 k bt361.1 bt361.2.1 bt437.1 true bt333.1 bt333.2.1 bt337.1 bt337.2.1 bt348.1 bt348.2.1 bt382.1 bt382.2.1 bt402.1 bt402.2.1 bt422.1 bt422.2.1)) else (snowlinelaw01_sane.j0 k bt361.1 bt361.2.1 bt437.1 true bt333.1 bt333.2.1 bt337.1 bt337.2.1 bt348.1 bt348.2.1 bt382.1 bt382.2.1 bt402.1 bt402.2.1 bt422.1 bt422.2.1)) else (snowlinelaw01_sane.j0 k bt361.1 bt361.2.1 bt437.1 true bt333.1 bt333.2.1 bt337.1 bt337.2.1 bt348.1 bt348.2.1 bt382.1 bt382.2.1 bt402.1 bt402.2.1 bt422.1 bt422.2.1)) else (snowlinelaw01_sane.j0 k bt361.1 bt361.2.1 bt437.1 true bt333.1 bt333.2.1 bt337.1 bt337.2.1 bt348.1 bt348.2.1 bt382.1 bt382.2.1 bt402.1 bt402.2.1 bt422.1 bt422.2.1)) else (snowlinelaw01_sane.j0 k bt361.1 bt361.2.1 bt437.1 true bt333.1 bt333.2.1 bt337.1 bt337.2.1 bt348.1 bt348.2.1 bt382.1 bt382.2.1 bt402.1 bt402.2.1 bt422.1 bt422.2.1)) else (snowlinelaw01_sane.j0 k bt361.1 bt361.2.1 bt437.1 true bt333.1 bt333.2.1 bt337.1 bt337.2.1 bt348.1 bt348.2.1 bt382.1 bt382.2.1 bt402.1 bt402.2.1 bt422.1 bt422.2.1)))))))))))))))))))) = some true := h
 clear h
 obtain ⟨y329, hy329⟩ : ∃ y_ : List (S26), y_ = (([(⟨10, 0, 0, 1⟩ : S26)] : List (S26))) := ⟨_, rfl⟩
 replace H : ((course_Drift.f k 0 2 y329 13 0).bind fun bt333 => ((course_Turn.f k 0 2 y329 7 13 0).bind fun bt337 => ((course_AddTest.f k 0 2 y329 13 0 3 3).bind fun bt341 => ((course_Turn.f k bt341.1 bt341.2.1 bt341.2.2.1 10 13 0).bind fun bt348 => ((course_Extend.f k 0 2 ([] : List (S26)) 0 (([1] : List Int)) (([0] : List Int)) (([0, 1, 4] : List Int))).bind fun bt361 => ((snowlinelaw01_example.f).bind fun bt366 => ((snowlinelaw01_sheet.f).bind fun bt371 => ((course_Core.f k bt366.1 bt366.2.1 bt366.2.2 bt371.1 bt371.2.1 bt371.2.2.1 bt371.2.2.2.1 bt371.2.2.2.2.1 bt371.2.2.2.2.2.1 bt371.2.2.2.2.2.2.1 bt371.2.2.2.2.2.2.2.1 bt371.2.2.2.2.2.2.2.2 0 10).bind fun bt382 => ((snowlinelaw01_example.f).bind fun bt386 => ((snowlinelaw01_sheet.f).bind fun bt391 => ((course_Water.f k bt386.1 bt386.2.1 bt386.2.2 bt391.1 bt391.2.1 bt391.2.2.1 bt391.2.2.2.1 bt391.2.2.2.2.1 bt391.2.2.2.2.2.1 bt391.2.2.2.2.2.2.1 bt391.2.2.2.2.2.2.2.1 bt391.2.2.2.2.2.2.2.2 0 10).bind fun bt402 => ((snowlinelaw01_example.f).bind fun bt406 => ((snowlinelaw01_sheet.f).bind fun bt411 => ((course_Density.f k bt406.1 bt406.2.1 bt406.2.2 bt411.1 bt411.2.1 bt411.2.2.1 bt411.2.2.2.1 bt411.2.2.2.2.1 bt411.2.2.2.2.2.1 bt411.2.2.2.2.2.2.1 bt411.2.2.2.2.2.2.2.1 bt411.2.2.2.2.2.2.2.2 0 10).bind fun bt422 => ((snowlinelaw01_sheet.f).bind fun bt426 => ((course_PrintSheet.f k bt426.1 bt426.2.1 bt426.2.2.1 bt426.2.2.2.1 bt426.2.2.2.2.1 bt426.2.2.2.2.2.1 bt426.2.2.2.2.2.2.1 bt426.2.2.2.2.2.2.2.1 bt426.2.2.2.2.2.2.2.2).bind fun bt437 => ((course_AddTest.f k 0 2 y329 12 0 6 7).bind fun bt439 => (if bt333.2.2 = 0 then (if bt337.2.2 = 0 then (if bt341.2.2.2 = 0 then (if bt348.2.2 = 0 then (if bt361.2.2 = 0 then (if bt382.2.2 = 0 then (if bt402.2.2 = 0 then (if bt422.2.2 = 0 then (if bt437.2 = 0 then (snowlinelaw01_sane.j0 k bt361.1 bt361.2.1 bt437.1 (bt439.2.2.2 != 13) bt333.1 bt333.2.1 bt337.1 bt337.2.1 bt348.1 bt348.2.1 bt382.1 bt382.2.1 bt402.1 bt402.2.1 bt422.1 bt422.2.1) else (snowlinelaw01_sane.j0 k bt361.1 bt361.2.1 bt437.1 true bt333.1 bt333.2.1 bt337.1 bt337.2.1 bt348.1 bt348.2.1 bt382.1 bt382.2.1 bt402.1 bt402.2.1 bt422.1 bt422.2.1)) else (snowlinelaw01_sane.j0 k bt361.1 bt361.2.1 bt437.1 true bt333.1 bt333.2.1 bt337.1 bt337.2.1 bt348.1 bt348.2.1 bt382.1 bt382.2.1 bt402.1 bt402.2.1 bt422.1 bt422.2.1)) else (snowlinelaw01_sane.j0 k bt361.1 bt361.2.1 bt437.1 true bt333.1 bt333.2.1 bt337.1 bt337.2.1 bt348.1 bt348.2.1 bt382.1 bt382.2.1 bt402.1 bt402.2.1 bt422.1 bt422.2.1)) else (snowlinelaw01_sane.j0 k bt361.1 bt361.2.1 bt437.1 true bt333.1 bt333.2.1 bt337.1 bt337.2.1 bt348.1 bt348.2.1 bt382.1 bt382.2.1 bt402.1 bt402.2.1 bt422.1 bt422.2.1)) else (snowlinelaw01_sane.j0 k bt361.1 bt361.2.1 bt437.1 true bt333.1 bt333.2.1 bt337.1 bt337.2.1 bt348.1 bt348.2.1 bt382.1 bt382.2.1 bt402.1 bt402.2.1 bt422.1 bt422.2.1)) else (snowlinelaw01_sane.j0 k bt361.1 bt361.2.1 bt437.1 true bt333.1 bt333.2.1 bt337.1 bt337.2.1 bt348.1 bt348.2.1 bt382.1 bt382.2.1 bt402.1 bt402.2.1 bt422.1 bt422.2.1)) else (snowlinelaw01_sane.j0 k bt361.1 bt361.2.1 bt437.1 true bt333.1 bt333.2.1 bt337.1 bt337.2.1 bt348.1 bt348.2.1 bt382.1 bt382.2.1 bt402.1 bt402.2.1 bt422.1 bt422.2.1)) else (snowlinelaw01_sane.j0 k bt361.1 bt361.2.1 bt437.1 true bt333.1 bt333.2.1 bt337.1 bt337.2.1 bt348.1 bt348.2.1 bt382.1 bt382.2.1 bt402.1 bt402.2.1 bt422.1 bt422.2.1)) else (snowlinelaw01_sane.j0 k bt361.1 bt361.2.1 bt437.1 true bt333.1 bt333.2.1 bt337.1 bt337.2.1 bt348.1 bt348.2.1 bt382.1 bt382.2.1 bt402.1 bt402.2.1 bt422.1 bt422.2.1))))))))))))))))))) = some true := by first | (rw [hy329]; with_reducible exact H) | (have H2_ := (Option.bind_some _ _).symm.trans H; rw [hy329]; with_reducible exact H2_) | (have H2_ := (Option.bind_some _ _).symm.trans H; with_reducible exact H2_) | with_reducible exact H | (rw [hy329]; exact H) | exact H
 have Ny329 := Aside0.mk (hy329)
 clear hy329
 replace H := Option.bind_eq_some_iff.mp H
 obtain ⟨⟨t333, t334, t335⟩, A10, H⟩ := H
 have A1 := Aside0.mk (A10)
 clear A10
 replace H := Option.bind_eq_some_iff.mp H
 obtain ⟨⟨t337, t338, t339⟩, A20, H⟩ := H
 have A2 := Aside0.mk (A20)
 clear A20
 replace H := Option.bind_eq_some_iff.mp H
 obtain ⟨⟨t341, t342, t343, t346⟩, A30, H⟩ := H
 have A3 := Aside0.mk (A30)
 clear A30
 replace H := Option.bind_eq_some_iff.mp H
 obtain ⟨⟨t348, t349, t350⟩, A40, H⟩ := H
 have A4 := Aside0.mk (A40)
 clear A40
 obtain ⟨y352, hy352⟩ : ∃ y_ : List Int, y_ = (([1] : List Int)) := ⟨_, rfl⟩
 replace H : ((course_Extend.f k 0 2 ([] : List (S26)) 0 y352 (([0] : List Int)) (([0, 1, 4] : List Int))).bind fun bt361 => ((snowlinelaw01_example.f).bind fun bt366 => ((snowlinelaw01_sheet.f).bind fun bt371 => ((course_Core.f k bt366.1 bt366.2.1 bt366.2.2 bt371.1 bt371.2.1 bt371.2.2.1 bt371.2.2.2.1 bt371.2.2.2.2.1 bt371.2.2.2.2.2.1 bt371.2.2.2.2.2.2.1 bt371.2.2.2.2.2.2.2.1 bt371.2.2.2.2.2.2.2.2 0 10).bind fun bt382 => ((snowlinelaw01_example.f).bind fun bt386 => ((snowlinelaw01_sheet.f).bind fun bt391 => ((course_Water.f k bt386.1 bt386.2.1 bt386.2.2 bt391.1 bt391.2.1 bt391.2.2.1 bt391.2.2.2.1 bt391.2.2.2.2.1 bt391.2.2.2.2.2.1 bt391.2.2.2.2.2.2.1 bt391.2.2.2.2.2.2.2.1 bt391.2.2.2.2.2.2.2.2 0 10).bind fun bt402 => ((snowlinelaw01_example.f).bind fun bt406 => ((snowlinelaw01_sheet.f).bind fun bt411 => ((course_Density.f k bt406.1 bt406.2.1 bt406.2.2 bt411.1 bt411.2.1 bt411.2.2.1 bt411.2.2.2.1 bt411.2.2.2.2.1 bt411.2.2.2.2.2.1 bt411.2.2.2.2.2.2.1 bt411.2.2.2.2.2.2.2.1 bt411.2.2.2.2.2.2.2.2 0 10).bind fun bt422 => ((snowlinelaw01_sheet.f).bind fun bt426 => ((course_PrintSheet.f k bt426.1 bt426.2.1 bt426.2.2.1 bt426.2.2.2.1 bt426.2.2.2.2.1 bt426.2.2.2.2.2.1 bt426.2.2.2.2.2.2.1 bt426.2.2.2.2.2.2.2.1 bt426.2.2.2.2.2.2.2.2).bind fun bt437 => ((course_AddTest.f k 0 2 y329 12 0 6 7).bind fun bt439 => (if t335 = 0 then (if t339 = 0 then (if t346 = 0 then (if t350 = 0 then (if bt361.2.2 = 0 then (if bt382.2.2 = 0 then (if bt402.2.2 = 0 then (if bt422.2.2 = 0 then (if bt437.2 = 0 then (snowlinelaw01_sane.j0 k bt361.1 bt361.2.1 bt437.1 (bt439.2.2.2 != 13) t333 t334 t337 t338 t348 t349 bt382.1 bt382.2.1 bt402.1 bt402.2.1 bt422.1 bt422.2.1) else (snowlinelaw01_sane.j0 k bt361.1 bt361.2.1 bt437.1 true t333 t334 t337 t338 t348 t349 bt382.1 bt382.2.1 bt402.1 bt402.2.1 bt422.1 bt422.2.1)) else (snowlinelaw01_sane.j0 k bt361.1 bt361.2.1 bt437.1 true t333 t334 t337 t338 t348 t349 bt382.1 bt382.2.1 bt402.1 bt402.2.1 bt422.1 bt422.2.1)) else (snowlinelaw01_sane.j0 k bt361.1 bt361.2.1 bt437.1 true t333 t334 t337 t338 t348 t349 bt382.1 bt382.2.1 bt402.1 bt402.2.1 bt422.1 bt422.2.1)) else (snowlinelaw01_sane.j0 k bt361.1 bt361.2.1 bt437.1 true t333 t334 t337 t338 t348 t349 bt382.1 bt382.2.1 bt402.1 bt402.2.1 bt422.1 bt422.2.1)) else (snowlinelaw01_sane.j0 k bt361.1 bt361.2.1 bt437.1 true t333 t334 t337 t338 t348 t349 bt382.1 bt382.2.1 bt402.1 bt402.2.1 bt422.1 bt422.2.1)) else (snowlinelaw01_sane.j0 k bt361.1 bt361.2.1 bt437.1 true t333 t334 t337 t338 t348 t349 bt382.1 bt382.2.1 bt402.1 bt402.2.1 bt422.1 bt422.2.1)) else (snowlinelaw01_sane.j0 k bt361.1 bt361.2.1 bt437.1 true t333 t334 t337 t338 t348 t349 bt382.1 bt382.2.1 bt402.1 bt402.2.1 bt422.1 bt422.2.1)) else (snowlinelaw01_sane.j0 k bt361.1 bt361.2.1 bt437.1 true t333 t334 t337 t338 t348 t349 bt382.1 bt382.2.1 bt402.1 bt402.2.1 bt422.1 bt422.2.1)) else (snowlinelaw01_sane.j0 k bt361.1 bt361.2.1 bt437.1 true t333 t334 t337 t338 t348 t349 bt382.1 bt382.2.1 bt402.1 bt402.2.1 bt422.1 bt422.2.1))))))))))))))) = some true := by first | (rw [hy352]; with_reducible exact H) | (have H2_ := (Option.bind_some _ _).symm.trans H; rw [hy352]; with_reducible exact H2_) | (have H2_ := (Option.bind_some _ _).symm.trans H; with_reducible exact H2_) | with_reducible exact H | (rw [hy352]; exact H) | exact H
 have Ny352 := Aside0.mk (hy352)
 clear hy352
 obtain ⟨y355, hy355⟩ : ∃ y_ : List Int, y_ = (([0] : List Int)) := ⟨_, rfl⟩
 replace H : ((course_Extend.f k 0 2 ([] : List (S26)) 0 y352 y355 (([0, 1, 4] : List Int))).bind fun bt361 => ((snowlinelaw01_example.f).bind fun bt366 => ((snowlinelaw01_sheet.f).bind fun bt371 => ((course_Core.f k bt366.1 bt366.2.1 bt366.2.2 bt371.1 bt371.2.1 bt371.2.2.1 bt371.2.2.2.1 bt371.2.2.2.2.1 bt371.2.2.2.2.2.1 bt371.2.2.2.2.2.2.1 bt371.2.2.2.2.2.2.2.1 bt371.2.2.2.2.2.2.2.2 0 10).bind fun bt382 => ((snowlinelaw01_example.f).bind fun bt386 => ((snowlinelaw01_sheet.f).bind fun bt391 => ((course_Water.f k bt386.1 bt386.2.1 bt386.2.2 bt391.1 bt391.2.1 bt391.2.2.1 bt391.2.2.2.1 bt391.2.2.2.2.1 bt391.2.2.2.2.2.1 bt391.2.2.2.2.2.2.1 bt391.2.2.2.2.2.2.2.1 bt391.2.2.2.2.2.2.2.2 0 10).bind fun bt402 => ((snowlinelaw01_example.f).bind fun bt406 => ((snowlinelaw01_sheet.f).bind fun bt411 => ((course_Density.f k bt406.1 bt406.2.1 bt406.2.2 bt411.1 bt411.2.1 bt411.2.2.1 bt411.2.2.2.1 bt411.2.2.2.2.1 bt411.2.2.2.2.2.1 bt411.2.2.2.2.2.2.1 bt411.2.2.2.2.2.2.2.1 bt411.2.2.2.2.2.2.2.2 0 10).bind fun bt422 => ((snowlinelaw01_sheet.f).bind fun bt426 => ((course_PrintSheet.f k bt426.1 bt426.2.1 bt426.2.2.1 bt426.2.2.2.1 bt426.2.2.2.2.1 bt426.2.2.2.2.2.1 bt426.2.2.2.2.2.2.1 bt426.2.2.2.2.2.2.2.1 bt426.2.2.2.2.2.2.2.2).bind fun bt437 => ((course_AddTest.f k 0 2 y329 12 0 6 7).bind fun bt439 => (if t335 = 0 then (if t339 = 0 then (if t346 = 0 then (if t350 = 0 then (if bt361.2.2 = 0 then (if bt382.2.2 = 0 then (if bt402.2.2 = 0 then (if bt422.2.2 = 0 then (if bt437.2 = 0 then (snowlinelaw01_sane.j0 k bt361.1 bt361.2.1 bt437.1 (bt439.2.2.2 != 13) t333 t334 t337 t338 t348 t349 bt382.1 bt382.2.1 bt402.1 bt402.2.1 bt422.1 bt422.2.1) else (snowlinelaw01_sane.j0 k bt361.1 bt361.2.1 bt437.1 true t333 t334 t337 t338 t348 t349 bt382.1 bt382.2.1 bt402.1 bt402.2.1 bt422.1 bt422.2.1)) else (snowlinelaw01_sane.j0 k bt361.1 bt361.2.1 bt437.1 true t333 t334 t337 t338 t348 t349 bt382.1 bt382.2.1 bt402.1 bt402.2.1 bt422.1 bt422.2.1)) else (snowlinelaw01_sane.j0 k bt361.1 bt361.2.1 bt437.1 true t333 t334 t337 t338 t348 t349 bt382.1 bt382.2.1 bt402.1 bt402.2.1 bt422.1 bt422.2.1)) else (snowlinelaw01_sane.j0 k bt361.1 bt361.2.1 bt437.1 true t333 t334 t337 t338 t348 t349 bt382.1 bt382.2.1 bt402.1 bt402.2.1 bt422.1 bt422.2.1)) else (snowlinelaw01_sane.j0 k bt361.1 bt361.2.1 bt437.1 true t333 t334 t337 t338 t348 t349 bt382.1 bt382.2.1 bt402.1 bt402.2.1 bt422.1 bt422.2.1)) else (snowlinelaw01_sane.j0 k bt361.1 bt361.2.1 bt437.1 true t333 t334 t337 t338 t348 t349 bt382.1 bt382.2.1 bt402.1 bt402.2.1 bt422.1 bt422.2.1)) else (snowlinelaw01_sane.j0 k bt361.1 bt361.2.1 bt437.1 true t333 t334 t337 t338 t348 t349 bt382.1 bt382.2.1 bt402.1 bt402.2.1 bt422.1 bt422.2.1)) else (snowlinelaw01_sane.j0 k bt361.1 bt361.2.1 bt437.1 true t333 t334 t337 t338 t348 t349 bt382.1 bt382.2.1 bt402.1 bt402.2.1 bt422.1 bt422.2.1)) else (snowlinelaw01_sane.j0 k bt361.1 bt361.2.1 bt437.1 true t333 t334 t337 t338 t348 t349 bt382.1 bt382.2.1 bt402.1 bt402.2.1 bt422.1 bt422.2.1))))))))))))))) = some true := by first | (rw [hy355]; with_reducible exact H) | (have H2_ := (Option.bind_some _ _).symm.trans H; rw [hy355]; with_reducible exact H2_) | (have H2_ := (Option.bind_some _ _).symm.trans H; with_reducible exact H2_) | with_reducible exact H | (rw [hy355]; exact H) | exact H
 have Ny355 := Aside0.mk (hy355)
 clear hy355
 obtain ⟨y358, hy358⟩ : ∃ y_ : List Int, y_ = (([0, 1, 4] : List Int)) := ⟨_, rfl⟩
 replace H : ((course_Extend.f k 0 2 ([] : List (S26)) 0 y352 y355 y358).bind fun bt361 => ((snowlinelaw01_example.f).bind fun bt366 => ((snowlinelaw01_sheet.f).bind fun bt371 => ((course_Core.f k bt366.1 bt366.2.1 bt366.2.2 bt371.1 bt371.2.1 bt371.2.2.1 bt371.2.2.2.1 bt371.2.2.2.2.1 bt371.2.2.2.2.2.1 bt371.2.2.2.2.2.2.1 bt371.2.2.2.2.2.2.2.1 bt371.2.2.2.2.2.2.2.2 0 10).bind fun bt382 => ((snowlinelaw01_example.f).bind fun bt386 => ((snowlinelaw01_sheet.f).bind fun bt391 => ((course_Water.f k bt386.1 bt386.2.1 bt386.2.2 bt391.1 bt391.2.1 bt391.2.2.1 bt391.2.2.2.1 bt391.2.2.2.2.1 bt391.2.2.2.2.2.1 bt391.2.2.2.2.2.2.1 bt391.2.2.2.2.2.2.2.1 bt391.2.2.2.2.2.2.2.2 0 10).bind fun bt402 => ((snowlinelaw01_example.f).bind fun bt406 => ((snowlinelaw01_sheet.f).bind fun bt411 => ((course_Density.f k bt406.1 bt406.2.1 bt406.2.2 bt411.1 bt411.2.1 bt411.2.2.1 bt411.2.2.2.1 bt411.2.2.2.2.1 bt411.2.2.2.2.2.1 bt411.2.2.2.2.2.2.1 bt411.2.2.2.2.2.2.2.1 bt411.2.2.2.2.2.2.2.2 0 10).bind fun bt422 => ((snowlinelaw01_sheet.f).bind fun bt426 => ((course_PrintSheet.f k bt426.1 bt426.2.1 bt426.2.2.1 bt426.2.2.2.1 bt426.2.2.2.2.1 bt426.2.2.2.2.2.1 bt426.2.2.2.2.2.2.1 bt426.2.2.2.2.2.2.2.1 bt426.2.2.2.2.2.2.2.2).bind fun bt437 => ((course_AddTest.f k 0 2 y329 12 0 6 7).bind fun bt439 => (if t335 = 0 then (if t339 = 0 then (if t346 = 0 then (if t350 = 0 then (if bt361.2.2 = 0 then (if bt382.2.2 = 0 then (if bt402.2.2 = 0 then (if bt422.2.2 = 0 then (if bt437.2 = 0 then (snowlinelaw01_sane.j0 k bt361.1 bt361.2.1 bt437.1 (bt439.2.2.2 != 13) t333 t334 t337 t338 t348 t349 bt382.1 bt382.2.1 bt402.1 bt402.2.1 bt422.1 bt422.2.1) else (snowlinelaw01_sane.j0 k bt361.1 bt361.2.1 bt437.1 true t333 t334 t337 t338 t348 t349 bt382.1 bt382.2.1 bt402.1 bt402.2.1 bt422.1 bt422.2.1)) else (snowlinelaw01_sane.j0 k bt361.1 bt361.2.1 bt437.1 true t333 t334 t337 t338 t348 t349 bt382.1 bt382.2.1 bt402.1 bt402.2.1 bt422.1 bt422.2.1)) else (snowlinelaw01_sane.j0 k bt361.1 bt361.2.1 bt437.1 true t333 t334 t337 t338 t348 t349 bt382.1 bt382.2.1 bt402.1 bt402.2.1 bt422.1 bt422.2.1)) else (snowlinelaw01_sane.j0 k bt361.1 bt361.2.1 bt437.1 true t333 t334 t337 t338 t348 t349 bt382.1 bt382.2.1 bt402.1 bt402.2.1 bt422.1 bt422.2.1)) else (snowlinelaw01_sane.j0 k bt361.1 bt361.2.1 bt437.1 true t333 t334 t337 t338 t348 t349 bt382.1 bt382.2.1 bt402.1 bt402.2.1 bt422.1 bt422.2.1)) else (snowlinelaw01_sane.j0 k bt361.1 bt361.2.1 bt437.1 true t333 t334 t337 t338 t348 t349 bt382.1 bt382.2.1 bt402.1 bt402.2.1 bt422.1 bt422.2.1)) else (snowlinelaw01_sane.j0 k bt361.1 bt361.2.1 bt437.1 true t333 t334 t337 t338 t348 t349 bt382.1 bt382.2.1 bt402.1 bt402.2.1 bt422.1 bt422.2.1)) else (snowlinelaw01_sane.j0 k bt361.1 bt361.2.1 bt437.1 true t333 t334 t337 t338 t348 t349 bt382.1 bt382.2.1 bt402.1 bt402.2.1 bt422.1 bt422.2.1)) else (snowlinelaw01_sane.j0 k bt361.1 bt361.2.1 bt437.1 true t333 t334 t337 t338 t348 t349 bt382.1 bt382.2.1 bt402.1 bt402.2.1 bt422.1 bt422.2.1))))))))))))))) = some true := by first | (rw [hy358]; with_reducible exact H) | (have H2_ := (Option.bind_some _ _).symm.trans H; rw [hy358]; with_reducible exact H2_) | (have H2_ := (Option.bind_some _ _).symm.trans H; with_reducible exact H2_) | with_reducible exact H | (rw [hy358]; exact H) | exact H
 have Ny358 := Aside0.mk (hy358)
 clear hy358
 replace H := Option.bind_eq_some_iff.mp H
 obtain ⟨⟨t361, t364, t365⟩, A50, H⟩ := H
 have A5 := Aside0.mk (A50)
 clear A50
 replace H := Option.bind_eq_some_iff.mp H
 obtain ⟨⟨t366, t367, t368⟩, A60, H⟩ := H
 have A6 := Aside0.mk (A60)
 clear A60
 replace H := Option.bind_eq_some_iff.mp H
 obtain ⟨⟨t371, t372, t373, t374, t375, t376, t377, t378, t379⟩, A70, H⟩ := H
 have A7 := Aside0.mk (A70)
 clear A70
 replace H := Option.bind_eq_some_iff.mp H
 obtain ⟨⟨t382, t383, t384⟩, A80, H⟩ := H
 have A8 := Aside0.mk (A80)
 clear A80
 replace H := Option.bind_eq_some_iff.mp H
 obtain ⟨⟨t386, t387, t388⟩, A90, H⟩ := H
 have A9 := Aside0.mk (A90)
 clear A90
 replace H := Option.bind_eq_some_iff.mp H
 obtain ⟨⟨t391, t392, t393, t394, t395, t396, t397, t398, t399⟩, A100, H⟩ := H
 have A10 := Aside0.mk (A100)
 clear A100
 replace H := Option.bind_eq_some_iff.mp H
 obtain ⟨⟨t402, t403, t404⟩, A110, H⟩ := H
 have A11 := Aside0.mk (A110)
 clear A110
 replace H := Option.bind_eq_some_iff.mp H
 obtain ⟨⟨t406, t407, t408⟩, A120, H⟩ := H
 have A12 := Aside0.mk (A120)
 clear A120
 replace H := Option.bind_eq_some_iff.mp H
 obtain ⟨⟨t411, t412, t413, t414, t415, t416, t417, t418, t419⟩, A130, H⟩ := H
 have A13 := Aside0.mk (A130)
 clear A130
 replace H := Option.bind_eq_some_iff.mp H
 obtain ⟨⟨t422, t423, t424⟩, A140, H⟩ := H
 have A14 := Aside0.mk (A140)
 clear A140
 replace H := Option.bind_eq_some_iff.mp H
 obtain ⟨⟨t426, t427, t428, t429, t430, t431, t432, t433, t434⟩, A150, H⟩ := H
 have A15 := Aside0.mk (A150)
 clear A150
 replace H := Option.bind_eq_some_iff.mp H
 obtain ⟨⟨t437, t438⟩, A160, H⟩ := H
 have A16 := Aside0.mk (A160)
 clear A160
 replace H := Option.bind_eq_some_iff.mp H
 obtain ⟨⟨t439, t440, t441, t444⟩, A170, H⟩ := H
 have A17 := Aside0.mk (A170)
 clear A170
 have HC18 := Aside0.mk (H)
 clear H
 go_enter Tryd.func13, Tryd.ntmps13
 go_upto_region 12 with (first | ((with_reducible refine gate_dst (N := 24) rfl ?_); (try (refine gate_guard (by rfl) ?_; dsimp only)); refine Kd.R_lit k26 _ 26 ?hg (N := 24) ?hd (xs := ([(⟨10, 0, 0, 1⟩ : S26)] : List (S26))) (inner := [.int .i64 10, .int .i64 0, .int .i64 0, .int .i64 1]) (ok := fun _ => True) (okp := fun _ => True) ?hr ?hp (fun _ hk => hk) trivial (Below.refl _ _) (Nat.le_refl _) (by simp) ?_; (case hd => rfl); (case hg => rfl); (case hr => first | (go_simp; done) | (go_simp; rfl)); (case hp => exact (Reps.c4 (show Kd.M k26 _ _ _ (⟨10, 0, 0, 1⟩ : S26) [.int .i64 10, .int .i64 0, .int .i64 0, .int .i64 1] from (k26_mkM _ _ _ (⟨10, 0, 0, 1⟩ : S26) )) (Reps.none _ _))); intro v330 w19 ho20 hb hg_ hnew_; clear hg_ hnew_; (first | rw [← Ny329.out] at ho20 | (simp only [Int.reduceToNat] at ho20; rw [← Ny329.out] at ho20)); have n0_ := Aside0.mk (Kd.R_lower ho20 (bz w)); replace HB := bS w hb; have HO331 := n0_; clear n0_ hb ho20; obtain ⟨Ao21, co21, eo21⟩ := Kd.R_slice HO331.out; subst eo21) | ((with_reducible refine gate_dst (N := 1) rfl ?_); (try (refine gate_guard (by rfl) ?_; dsimp only)); refine bxE 1 24 #[.int .i64 0, .int .i64 0, .slice none 0 0] (by rfl) (by rfl) (by first | (go_simp; done) | (go_simp; rfl)) ?_; intro gb332 hg w22 hbox hb; have BK332 := Bk.mk (hbox); have GE332 := eB w hg; replace HO331 := rB HO331 hb; replace HB := bS w hb; clear hb hbox hg; obtain ⟨hcz23_0, hcz23_1, hcz23_2, hfz23_0, hfz23_1, hfz23_2⟩ := cz3 BK332) | ((with_reducible refine gate_callee (f := 23) rfl ?_); refine goesLM (some 28) rfl rfl Tryd.func23 (by kernel_rfl) rfl #[.agg #[.int .i64 0, .int .i64 2, .slice Ao21 y329.length co21], .int .i64 13, .int .i64 0] rfl (by rfl) ?_; (with_reducible refine (course_Drift.calls k 0 2 _ _ y329 13 0 t333 t334 t335 _ ?side1 ?side2 A1.out).mono ?_); (case side1 => refine (Kd.R_reads' (e := 26) (base := w.heap.size) (ok := fun k_ => True) (n := y329.length) (c := co21) ?_).2.2; exact (by (with_reducible repeat (first | apply Kd.R_alloc | apply Kd.R_drewN | apply Kd.R_drew)); exact (Kd.R_mono (Kd.R_far (p := ⟨gb332, 2, none⟩) (Kd.R_far (p := ⟨gb332, 1, none⟩) (Kd.R_far (p := ⟨gb332, 0, none⟩) (Kd.R_types HO331.out BK332.out (by decide)) (fun _ hk => hk.2) (.int .i64 0)) (fun _ hk => hk.2) (.int .i64 2)) (fun _ hk => hk.2) (.slice Ao21 y329.length co21)) (fun _ h_ => h_.1)))); (case side2 => exact (Kd.R_reads' HO331.out).2.1); rintro e w24 ⟨rfl, hb⟩; refine ⟨_, rfl, ?_⟩; have n0_ := Aside0.mk (Kd.R_below (by (with_reducible repeat (first | apply Kd.R_alloc | apply Kd.R_drewN | apply Kd.R_drew)); exact (Kd.R_mono (Kd.R_far (p := ⟨gb332, 2, none⟩) (Kd.R_far (p := ⟨gb332, 1, none⟩) (Kd.R_far (p := ⟨gb332, 0, none⟩) (Kd.R_types HO331.out BK332.out (by decide)) (fun _ hk => hk.2) (.int .i64 0)) (fun _ hk => hk.2) (.int .i64 2)) (fun _ hk => hk.2) (.slice Ao21 y329.length co21)) (fun _ h_ => h_.1))) hb); replace BK332 := kBo gb332 (.cells #[.int .i64 0, .int .i64 2, .slice Ao21 y329.length co21] 24 (0, 0)) hb (by rfl); replace HB := bS w hb; clear HO331; have HO331 := n0_; clear n0_; (try clear hb)) | ((with_reducible refine gate_dst (N := 2) rfl ?_); (try (refine gate_guard (by rfl) ?_; dsimp only)); refine bxE 2 40 #[.int .i64 0, .int .i64 0] (by rfl) (by rfl) (by first | (go_simp; done) | (go_simp; rfl)) ?_; intro gb336 hg w25 hbox hb; have BK336 := Bk.mk (hbox); have GE336 := eB w hg; have NB332_336 := nB gb332 hg; replace HO331 := rB HO331 hb; replace BK332 := kB gb332 hb; replace HB := bS w hb; clear hb hbox hg; obtain ⟨hnc26, hnb26⟩ := nn NB332_336; obtain ⟨hcz27_0, hcz27_1, hfz27_0, hfz27_1⟩ := cz2 BK336; obtain ⟨hcz28_0, hcz28_1, hcz28_2, hfz28_0, hfz28_1, hfz28_2⟩ := cz3 BK332) | ((with_reducible refine gate_callee (f := 25) rfl ?_); refine goesLM (some 33) rfl rfl Tryd.func25 (by kernel_rfl) rfl #[.agg #[.int .i64 0, .int .i64 2, .slice Ao21 y329.length co21], .int .i64 7, .int .i64 13, .int .i64 0] rfl (by rfl) ?_; (with_reducible refine (course_Turn.calls k 0 2 _ _ y329 7 13 0 t337 t338 t339 _ ?side1 ?side2 A2.out).mono ?_); (case side1 => refine (Kd.R_reads' (e := 26) (base := w.heap.size) (ok := fun k_ => True) (n := y329.length) (c := co21) ?_).2.2; exact (by (with_reducible repeat (first | apply Kd.R_alloc | apply Kd.R_drewN | apply Kd.R_drew)); exact (Kd.R_mono (Kd.R_far (p := ⟨gb336, 1, none⟩) (Kd.R_far (p := ⟨gb336, 0, none⟩) (Kd.R_types HO331.out BK336.out (by decide)) (fun _ hk => hk.2) (.int .i64 t333)) (fun _ hk => hk.2) (.int .i64 t334)) (fun _ h_ => h_.1)))); (case side2 => exact (Kd.R_reads' HO331.out).2.1); rintro e w29 ⟨rfl, hb⟩; refine ⟨_, rfl, ?_⟩; have n0_ := Aside0.mk (Kd.R_below (by (with_reducible repeat (first | apply Kd.R_alloc | apply Kd.R_drewN | apply Kd.R_drew)); exact (Kd.R_mono (Kd.R_far (p := ⟨gb336, 1, none⟩) (Kd.R_far (p := ⟨gb336, 0, none⟩) (Kd.R_types HO331.out BK336.out (by decide)) (fun _ hk => hk.2) (.int .i64 t333)) (fun _ hk => hk.2) (.int .i64 t334)) (fun _ h_ => h_.1))) hb); replace BK332 := kB gb332 hb; replace BK336 := kBo gb336 (.cells #[.int .i64 t333, .int .i64 t334] 40 (0, 0)) hb (by rfl); replace HB := bS w hb; clear HO331; have HO331 := n0_; clear n0_; (try clear hb)) | ((with_reducible refine gate_dst (N := 4) rfl ?_); (try (refine gate_guard (by rfl) ?_; dsimp only)); refine bxE 4 40 #[.int .i64 0, .int .i64 0] (by rfl) (by rfl) (by first | (go_simp; done) | (go_simp; rfl)) ?_; intro gb340 hg w30 hbox hb; have BK340 := Bk.mk (hbox); have GE340 := eB w hg; have NB332_340 := nB gb332 hg; have NB336_340 := nB gb336 hg; replace HO331 := rB HO331 hb; replace BK332 := kB gb332 hb; replace BK336 := kB gb336 hb; replace HB := bS w hb; clear hb hbox hg; obtain ⟨hnc31, hnb31⟩ := nn NB332_340; obtain ⟨hnc32, hnb32⟩ := nn NB336_340; obtain ⟨hcz33_0, hcz33_1, hfz33_0, hfz33_1⟩ := cz2 BK340; obtain ⟨hcz34_0, hcz34_1, hcz34_2, hfz34_0, hfz34_1, hfz34_2⟩ := cz3 BK332) | ((with_reducible refine gate_callee (f := 16) rfl ?_); refine goesLM (some 39) rfl rfl Tryd.func16 (by kernel_rfl) rfl #[.agg #[.int .i64 0, .int .i64 2, .slice Ao21 y329.length co21], .agg #[.int .i64 13, .int .i64 0, .int .i64 3, .int .i64 3]] rfl (by rfl) ?_; (with_reducible refine (course_AddTest.calls k 0 2 _ _ y329 13 0 3 3 t341 t342 t343 t346 _ ?side1 ?side2 A3.out).mono ?_); (case side1 => refine (Kd.R_reads' (e := 26) (base := w.heap.size) (ok := fun k_ => True) (n := y329.length) (c := co21) ?_).2.2; exact (by (with_reducible repeat (first | apply Kd.R_alloc | apply Kd.R_drewN | apply Kd.R_drew)); exact (Kd.R_mono (Kd.R_far (p := ⟨gb340, 1, none⟩) (Kd.R_far (p := ⟨gb340, 0, none⟩) (Kd.R_types HO331.out BK340.out (by decide)) (fun _ hk => hk.2) (.int .i64 t337)) (fun _ hk => hk.2) (.int .i64 t338)) (fun _ h_ => h_.1)))); (case side2 => exact (Kd.R_reads' HO331.out).2.1); rintro e w35 ⟨v344, rfl, ho0, hb⟩; refine ⟨_, rfl, ?_⟩; have n0_ := Aside0.mk (Kd.R_elder' (by (with_reducible repeat (first | apply Kd.R_alloc | apply Kd.R_drewN | apply Kd.R_drew)); exact (Kd.R_mono (Kd.R_far (p := ⟨gb340, 1, none⟩) (Kd.R_far (p := ⟨gb340, 0, none⟩) (Kd.R_types HO331.out BK340.out (by decide)) (fun _ hk => hk.2) (.int .i64 t337)) (fun _ hk => hk.2) (.int .i64 t338)) (fun _ h_ => h_.1))) (Kd.R_base ho0) hb); have n1_ := Aside0.mk (Kd.R_lower (Kd.R_new' ho0 (Kd.R_lt (by (with_reducible repeat (first | apply Kd.R_alloc | apply Kd.R_drewN | apply Kd.R_drew)); exact (Kd.R_mono (Kd.R_far (p := ⟨gb340, 1, none⟩) (Kd.R_far (p := ⟨gb340, 0, none⟩) (Kd.R_types HO331.out BK340.out (by decide)) (fun _ hk => hk.2) (.int .i64 t337)) (fun _ hk => hk.2) (.int .i64 t338)) (fun _ h_ => h_.1))))) (bz w)); replace BK332 := kB gb332 hb; replace BK336 := kB gb336 hb; replace BK340 := kBo gb340 (.cells #[.int .i64 t337, .int .i64 t338] 40 (0, 0)) hb (by rfl); replace HB := bS w hb; clear HO331; have HO331 := n0_; have HO345 := n1_; clear n0_ n1_; (try clear hb); (try clear ho0)) | ((with_reducible refine gate_dst (N := 6) rfl ?_); (try (refine gate_guard (by rfl) ?_; dsimp only)); refine bxE 6 24 #[.int .i64 0, .int .i64 0, .slice none 0 0] (by rfl) (by rfl) (by first | (go_simp; done) | (go_simp; rfl)) ?_; intro gb347 hg w36 hbox hb; have BK347 := Bk.mk (hbox); have GE347 := eB w hg; have NB332_347 := nB gb332 hg; have NB336_347 := nB gb336 hg; have NB340_347 := nB gb340 hg; replace HO331 := rB HO331 hb; replace HO345 := rB HO345 hb; replace BK332 := kB gb332 hb; replace BK336 := kB gb336 hb; replace BK340 := kB gb340 hb; replace HB := bS w hb; clear hb hbox hg; obtain ⟨hnc37, hnb37⟩ := nn NB332_347; obtain ⟨hnc38, hnb38⟩ := nn NB336_347; obtain ⟨hnc39, hnb39⟩ := nn NB340_347; obtain ⟨hcz40_0, hcz40_1, hcz40_2, hfz40_0, hfz40_1, hfz40_2⟩ := cz3 BK347; obtain ⟨Ao41, co41, eo41⟩ := Kd.R_slice HO345.out; subst eo41) | ((with_reducible refine gate_callee (f := 25) rfl ?_); refine goesLM (some 44) rfl rfl Tryd.func25 (by kernel_rfl) rfl #[.agg #[.int .i64 t341, .int .i64 t342, .slice Ao41 t343.length co41], .int .i64 10, .int .i64 13, .int .i64 0] rfl (by rfl) ?_; (with_reducible refine (course_Turn.calls k t341 t342 _ _ t343 10 13 0 t348 t349 t350 _ ?side1 ?side2 A4.out).mono ?_); (case side1 => refine (Kd.R_reads' (e := 26) (base := w.heap.size) (ok := fun k_ => (True ∧ some k_ ≠ (.slice Ao21 y329.length co21 : Value).ownBlock)) (n := t343.length) (c := co41) ?_).2.2; exact (by (with_reducible repeat (first | apply Kd.R_alloc | apply Kd.R_drewN | apply Kd.R_drew)); exact (Kd.R_mono (Kd.R_far (p := ⟨gb347, 2, none⟩) (Kd.R_far (p := ⟨gb347, 1, none⟩) (Kd.R_far (p := ⟨gb347, 0, none⟩) (Kd.R_types HO345.out BK347.out (by decide)) (fun _ hk => hk.2) (.int .i64 t341)) (fun _ hk => hk.2) (.int .i64 t342)) (fun _ hk => hk.2) (.slice Ao41 t343.length co41)) (fun _ h_ => h_.1)))); (case side2 => exact (Kd.R_reads' HO345.out).2.1); rintro e w42 ⟨rfl, hb⟩; refine ⟨_, rfl, ?_⟩; have n0_ := Aside0.mk (Kd.R_below (by (with_reducible repeat (first | apply Kd.R_alloc | apply Kd.R_drewN | apply Kd.R_drew)); exact (Kd.R_mono (Kd.R_far (p := ⟨gb347, 2, none⟩) (Kd.R_far (p := ⟨gb347, 1, none⟩) (Kd.R_far (p := ⟨gb347, 0, none⟩) (Kd.R_types HO331.out BK347.out (by decide)) (fun _ hk => hk.2) (.int .i64 t341)) (fun _ hk => hk.2) (.int .i64 t342)) (fun _ hk => hk.2) (.slice Ao41 t343.length co41)) (fun _ h_ => h_.1))) hb); have n1_ := Aside0.mk (Kd.R_below (by (with_reducible repeat (first | apply Kd.R_alloc | apply Kd.R_drewN | apply Kd.R_drew)); exact (Kd.R_mono (Kd.R_far (p := ⟨gb347, 2, none⟩) (Kd.R_far (p := ⟨gb347, 1, none⟩) (Kd.R_far (p := ⟨gb347, 0, none⟩) (Kd.R_types HO345.out BK347.out (by decide)) (fun _ hk => hk.2) (.int .i64 t341)) (fun _ hk => hk.2) (.int .i64 t342)) (fun _ hk => hk.2) (.slice Ao41 t343.length co41)) (fun _ h_ => h_.1))) hb); replace BK332 := kB gb332 hb; replace BK336 := kB gb336 hb; replace BK340 := kB gb340 hb; replace BK347 := kBo gb347 (.cells #[.int .i64 t341, .int .i64 t342, .slice Ao41 t343.length co41] 24 (0, 0)) hb (by rfl); replace HB := bS w hb; clear HO331 HO345; have HO331 := n0_; have HO345 := n1_; clear n0_ n1_; (try clear hb)) | ((with_reducible refine gate_dst (N := 8) rfl ?_); (try (refine gate_guard (by rfl) ?_; dsimp only)); refine bxE 8 40 #[.int .i64 0, .int .i64 0] (by rfl) (by rfl) (by first | (go_simp; done) | (go_simp; rfl)) ?_; intro gb351 hg w43 hbox hb; have BK351 := Bk.mk (hbox); have GE351 := eB w hg; have NB332_351 := nB gb332 hg; have NB336_351 := nB gb336 hg; have NB340_351 := nB gb340 hg; have NB347_351 := nB gb347 hg; replace HO331 := rB HO331 hb; replace HO345 := rB HO345 hb; replace BK332 := kB gb332 hb; replace BK336 := kB gb336 hb; replace BK340 := kB gb340 hb; replace BK347 := kB gb347 hb; replace HB := bS w hb; clear hb hbox hg; obtain ⟨hnc44, hnb44⟩ := nn NB332_351; obtain ⟨hnc45, hnb45⟩ := nn NB336_351; obtain ⟨hnc46, hnb46⟩ := nn NB340_351; obtain ⟨hnc47, hnb47⟩ := nn NB347_351; obtain ⟨hcz48_0, hcz48_1, hfz48_0, hfz48_1⟩ := cz2 BK351) | ((with_reducible refine gate_dst (N := 49) rfl ?_); (try (refine gate_guard (by rfl) ?_; dsimp only)); refine Kd.R_lit (Kd.int .i64) _ 3 ?hg (N := 49) ?hd (xs := ([1] : List Int)) (inner := [.int .i64 1]) (ok := fun _ => True) (okp := fun _ => True) ?hr ?hp (fun _ hk => hk) trivial (Below.refl _ _) (Nat.le_refl _) (by simp) ?_; (case hd => rfl); (case hg => rfl); (case hr => first | (go_simp; done) | (go_simp; rfl)); (case hp => exact (Reps.one (show Kd.M (Kd.int .i64) _ _ _ 1 [.int .i64 1] from rfl) (Reps.none _ _))); intro v353 w49 ho50 hb hg_ hnew_; clear hg_ hnew_; (first | rw [← Ny352.out] at ho50 | (simp only [Int.reduceToNat] at ho50; rw [← Ny352.out] at ho50)); have n0_ := Aside0.mk (Kd.R_below (by (with_reducible repeat (first | apply Kd.R_alloc | apply Kd.R_drewN | apply Kd.R_drew)); exact (Kd.R_mono (Kd.R_far (p := ⟨gb351, 1, none⟩) (Kd.R_far (p := ⟨gb351, 0, none⟩) (Kd.R_types HO331.out BK351.out (by decide)) (fun _ hk => hk.2) (.int .i64 t348)) (fun _ hk => hk.2) (.int .i64 t349)) (fun _ h_ => h_.1))) hb); have n1_ := Aside0.mk (Kd.R_below (by (with_reducible repeat (first | apply Kd.R_alloc | apply Kd.R_drewN | apply Kd.R_drew)); exact (Kd.R_mono (Kd.R_far (p := ⟨gb351, 1, none⟩) (Kd.R_far (p := ⟨gb351, 0, none⟩) (Kd.R_types HO345.out BK351.out (by decide)) (fun _ hk => hk.2) (.int .i64 t348)) (fun _ hk => hk.2) (.int .i64 t349)) (fun _ h_ => h_.1))) hb); have n2_ := Aside0.mk (Kd.R_lower ho50 (bz w)); replace BK332 := kB gb332 hb; replace BK336 := kB gb336 hb; replace BK340 := kB gb340 hb; replace BK347 := kB gb347 hb; replace BK351 := kBo gb351 (.cells #[.int .i64 t348, .int .i64 t349] 40 (0, 0)) hb (by rfl); replace HB := bS w hb; clear HO331 HO345; have HO331 := n0_; have HO345 := n1_; have HO354 := n2_; clear n0_ n1_ n2_ hb ho50) | ((with_reducible refine gate_dst (N := 50) rfl ?_); (try (refine gate_guard (by rfl) ?_; dsimp only)); refine Kd.R_lit (Kd.int .i64) _ 3 ?hg (N := 50) ?hd (xs := ([0] : List Int)) (inner := [.int .i64 0]) (ok := fun _ => True) (okp := fun _ => True) ?hr ?hp (fun _ hk => hk) trivial (Below.refl _ _) (Nat.le_refl _) (by simp) ?_; (case hd => rfl); (case hg => rfl); (case hr => first | (go_simp; done) | (go_simp; rfl)); (case hp => exact (Reps.one (show Kd.M (Kd.int .i64) _ _ _ 0 [.int .i64 0] from rfl) (Reps.none _ _))); intro v356 w51 ho52 hb hg_ hnew_; clear hg_ hnew_; (first | rw [← Ny355.out] at ho52 | (simp only [Int.reduceToNat] at ho52; rw [← Ny355.out] at ho52)); have n2_ := Aside0.mk (Kd.R_elder' (by (with_reducible repeat (first | apply Kd.R_alloc | apply Kd.R_drewN | apply Kd.R_drew)); exact HO354.out) (Kd.R_base ho52) hb); have n3_ := Aside0.mk (Kd.R_lower (Kd.R_new' ho52 (Kd.R_lt (by (with_reducible repeat (first | apply Kd.R_alloc | apply Kd.R_drewN | apply Kd.R_drew)); exact HO354.out))) (bz w)); replace HO331 := rB HO331 hb; replace HO345 := rB HO345 hb; replace BK332 := kB gb332 hb; replace BK336 := kB gb336 hb; replace BK340 := kB gb340 hb; replace BK347 := kB gb347 hb; replace BK351 := kB gb351 hb; replace HB := bS w hb; clear HO354; have HO354 := n2_; have HO357 := n3_; clear n2_ n3_ hb ho52) | ((with_reducible refine gate_dst (N := 51) rfl ?_); (try (refine gate_guard (by rfl) ?_; dsimp only)); refine Kd.R_lit (Kd.int .i64) _ 3 ?hg (N := 51) ?hd (xs := ([0, 1, 4] : List Int)) (inner := [.int .i64 0, .int .i64 1, .int .i64 4]) (ok := fun _ => True) (okp := fun _ => True) ?hr ?hp (fun _ hk => hk) trivial (Below.refl _ _) (Nat.le_refl _) (by simp) ?_; (case hd => rfl); (case hg => rfl); (case hr => first | (go_simp; done) | (go_simp; rfl)); (case hp => exact (Reps.one (show Kd.M (Kd.int .i64) _ _ _ 0 [.int .i64 0] from rfl) (Reps.one (show Kd.M (Kd.int .i64) _ _ _ 1 [.int .i64 1] from rfl) (Reps.one (show Kd.M (Kd.int .i64) _ _ _ 4 [.int .i64 4] from rfl) (Reps.none _ _))))); intro v359 w53 ho54 hb hg_ hnew_; clear hg_ hnew_; (first | rw [← Ny358.out] at ho54 | (simp only [Int.reduceToNat] at ho54; rw [← Ny358.out] at ho54)); have n2_ := Aside0.mk (Kd.R_elder' (by (with_reducible repeat (first | apply Kd.R_alloc | apply Kd.R_drewN | apply Kd.R_drew)); exact HO354.out) (Kd.R_base ho54) hb); have n3_ := Aside0.mk (Kd.R_elder' (by (with_reducible repeat (first | apply Kd.R_alloc | apply Kd.R_drewN | apply Kd.R_drew)); exact HO357.out) (Kd.R_base ho54) hb); have n4_ := Aside0.mk (Kd.R_lower (Kd.R_new' (Kd.R_new' ho54 (Kd.R_lt (by (with_reducible repeat (first | apply Kd.R_alloc | apply Kd.R_drewN | apply Kd.R_drew)); exact HO354.out))) (Kd.R_lt (by (with_reducible repeat (first | apply Kd.R_alloc | apply Kd.R_drewN | apply Kd.R_drew)); exact HO357.out))) (bz w)); replace HO331 := rB HO331 hb; replace HO345 := rB HO345 hb; replace BK332 := kB gb332 hb; replace BK336 := kB gb336 hb; replace BK340 := kB gb340 hb; replace BK347 := kB gb347 hb; replace BK351 := kB gb351 hb; replace HB := bS w hb; clear HO354 HO357; have HO354 := n2_; have HO357 := n3_; have HO360 := n4_; clear n2_ n3_ n4_ hb ho54; obtain ⟨Ao55, co55, eo55⟩ := Kd.R_slice HO354.out; subst eo55; obtain ⟨Ao56, co56, eo56⟩ := Kd.R_slice HO357.out; subst eo56; obtain ⟨Ao57, co57, eo57⟩ := Kd.R_slice HO360.out; subst eo57) | ((with_reducible refine gate_callee (f := 35) rfl ?_); refine goesLM (some 52) rfl rfl Tryd.func35 (by kernel_rfl) rfl #[.agg #[.int .i64 0, .int .i64 2, .slice none 0 0], .int .i64 0, .slice Ao55 y352.length co55, .slice Ao56 y355.length co56, .slice Ao57 y358.length co57] rfl (by rfl) ?_; (refine (course_Extend.calls k 0 2 _ _ ([] : List (S26)) 0 _ _ y352 _ _ y355 _ _ y358 t361 t364 t365 _ ?side1 ?side2 ?side3 ?side4 ?side5 ?side6 ?side7 ?side8 A5.out).mono ?_); (case side1 => exact Kd.C_nil _ _); (case side2 => exact Nat.le_refl _); (case side3 => exact cP (Kd.R_reads' HO354.out).2.2); (case side4 => exact (Kd.R_reads' HO354.out).2.1); (case side5 => exact cP (Kd.R_reads' HO357.out).2.2); (case side6 => exact (Kd.R_reads' HO357.out).2.1); (case side7 => exact cP (Kd.R_reads' HO360.out).2.2); (case side8 => exact (Kd.R_reads' HO360.out).2.1); rintro e w58 ⟨v362, rfl, ho0, hb⟩; refine ⟨_, rfl, ?_⟩; have n2_ := Aside0.mk (Kd.R_elder' (by (with_reducible repeat (first | apply Kd.R_alloc | apply Kd.R_drewN | apply Kd.R_drew)); exact HO354.out) (Kd.R_base ho0) hb); have n3_ := Aside0.mk (Kd.R_elder' (by (with_reducible repeat (first | apply Kd.R_alloc | apply Kd.R_drewN | apply Kd.R_drew)); exact HO357.out) (Kd.R_base ho0) hb); have n4_ := Aside0.mk (Kd.R_elder' (by (with_reducible repeat (first | apply Kd.R_alloc | apply Kd.R_drewN | apply Kd.R_drew)); exact HO360.out) (Kd.R_base ho0) hb); have n5_ := Aside0.mk (Kd.R_lower (Kd.R_new' (Kd.R_new' (Kd.R_new' ho0 (Kd.R_lt (by (with_reducible repeat (first | apply Kd.R_alloc | apply Kd.R_drewN | apply Kd.R_drew)); exact HO354.out))) (Kd.R_lt (by (with_reducible repeat (first | apply Kd.R_alloc | apply Kd.R_drewN | apply Kd.R_drew)); exact HO357.out))) (Kd.R_lt (by (with_reducible repeat (first | apply Kd.R_alloc | apply Kd.R_drewN | apply Kd.R_drew)); exact HO360.out))) (bz w)); replace HO331 := rB HO331 hb; replace HO345 := rB HO345 hb; replace BK332 := kB gb332 hb; replace BK336 := kB gb336 hb; replace BK340 := kB gb340 hb; replace BK347 := kB gb347 hb; replace BK351 := kB gb351 hb; replace HB := bS w hb; clear HO354 HO357 HO360; have HO354 := n2_; have HO357 := n3_; have HO360 := n4_; have HO363 := n5_; clear n2_ n3_ n4_ n5_; (try clear hb); (try clear ho0)) | ((with_reducible refine gate_callee (f := 66) rfl ?_); refine goesLM (some 57) rfl rfl Tryd.func66 (by kernel_rfl) rfl #[] rfl (by rfl) ?_; (with_reducible refine (snowlinelaw01_example.calls  t366 t367 t368 _ A6.out).mono ?_); rintro e w59 ⟨v369, rfl, ho0, hb⟩; refine ⟨_, rfl, ?_⟩; have n0_ := Aside0.mk (Kd.R_elder' (by (with_reducible repeat (first | apply Kd.R_alloc | apply Kd.R_drewN | apply Kd.R_drew)); exact HO331.out) (Kd.R_base ho0) hb); have n1_ := Aside0.mk (Kd.R_elder' (by (with_reducible repeat (first | apply Kd.R_alloc | apply Kd.R_drewN | apply Kd.R_drew)); exact HO345.out) (Kd.R_base ho0) hb); have n6_ := Aside0.mk (Kd.R_lower (Kd.R_new' (Kd.R_new' ho0 (Kd.R_lt (by (with_reducible repeat (first | apply Kd.R_alloc | apply Kd.R_drewN | apply Kd.R_drew)); exact HO331.out))) (Kd.R_lt (by (with_reducible repeat (first | apply Kd.R_alloc | apply Kd.R_drewN | apply Kd.R_drew)); exact HO345.out))) (bz w)); replace HO354 := rB HO354 hb; replace HO357 := rB HO357 hb; replace HO360 := rB HO360 hb; replace HO363 := rB HO363 hb; replace BK332 := kB gb332 hb; replace BK336 := kB gb336 hb; replace BK340 := kB gb340 hb; replace BK347 := kB gb347 hb; replace BK351 := kB gb351 hb; replace HB := bS w hb; clear HO331 HO345; have HO331 := n0_; have HO345 := n1_; have HO370 := n6_; clear n0_ n1_ n6_; (try clear hb); (try clear ho0)) | ((with_reducible refine gate_callee (f := 67) rfl ?_); refine goesLM (some 58) rfl rfl Tryd.func67 (by kernel_rfl) rfl #[] rfl (by rfl) ?_; (with_reducible refine (snowlinelaw01_sheet.calls  t371 t372 t373 t374 t375 t376 t377 t378 t379 _ A7.out).mono ?_); rintro e w60 ⟨v380, rfl, ho0, hb⟩; refine ⟨_, rfl, ?_⟩; have n7_ := Aside0.mk (Kd.R_lower ho0 (bz w)); replace HO331 := rB HO331 hb; replace HO345 := rB HO345 hb; replace HO354 := rB HO354 hb; replace HO357 := rB HO357 hb; replace HO360 := rB HO360 hb; replace HO363 := rB HO363 hb; replace HO370 := rB HO370 hb; replace BK332 := kB gb332 hb; replace BK336 := kB gb336 hb; replace BK340 := kB gb340 hb; replace BK347 := kB gb347 hb; replace BK351 := kB gb351 hb; replace HB := bS w hb; have HO381 := n7_; clear n7_; (try clear hb); (try clear ho0); obtain ⟨Ao61, co61, eo61⟩ := Kd.R_slice HO370.out; subst eo61; obtain ⟨Ao62, co62, eo62⟩ := Kd.R_slice HO381.out; subst eo62) | ((with_reducible refine gate_callee (f := 27) rfl ?_); refine goesLM (some 59) rfl rfl Tryd.func27 (by kernel_rfl) rfl #[.agg #[.int .i64 t366, .int .i64 t367, .slice Ao61 t368.length co61], .agg #[.int .i64 t371, .int .i64 t372, .int .i64 t373, .int .i64 t374, .int .i64 t375, .int .i64 t376, .int .i64 t377, .int .i64 t378, .slice Ao62 t379.length co62], .int .i64 0, .int .i64 10] rfl (by rfl) ?_; (with_reducible refine (course_Core.calls k t366 t367 _ _ t368 t371 t372 t373 t374 t375 t376 t377 t378 _ _ t379 0 10 t382 t383 t384 _ ?side1 ?side2 ?side3 ?side4 A8.out).mono ?_); (case side1 => exact cP (Kd.R_reads' HO370.out).2.2); (case side2 => exact (Kd.R_reads' HO370.out).2.1); (case side3 => exact cP (Kd.R_reads' HO381.out).2.2); (case side4 => exact (Kd.R_reads' HO381.out).2.1); rintro e w63 ⟨rfl, hb⟩; refine ⟨_, rfl, ?_⟩; replace HO331 := rB HO331 hb; replace HO345 := rB HO345 hb; replace HO354 := rB HO354 hb; replace HO357 := rB HO357 hb; replace HO360 := rB HO360 hb; replace HO363 := rB HO363 hb; replace HO370 := rB HO370 hb; replace HO381 := rB HO381 hb; replace BK332 := kB gb332 hb; replace BK336 := kB gb336 hb; replace BK340 := kB gb340 hb; replace BK347 := kB gb347 hb; replace BK351 := kB gb351 hb; replace HB := bS w hb; (try clear hb)) | ((with_reducible refine gate_dst (N := 13) rfl ?_); (try (refine gate_guard (by rfl) ?_; dsimp only)); refine bxE 13 40 #[.int .i64 0, .int .i64 0] (by rfl) (by rfl) (by first | (go_simp; done) | (go_simp; rfl)) ?_; intro gb385 hg w64 hbox hb; have BK385 := Bk.mk (hbox); have GE385 := eB w hg; have NB332_385 := nB gb332 hg; have NB336_385 := nB gb336 hg; have NB340_385 := nB gb340 hg; have NB347_385 := nB gb347 hg; have NB351_385 := nB gb351 hg; replace HO331 := rB HO331 hb; replace HO345 := rB HO345 hb; replace HO354 := rB HO354 hb; replace HO357 := rB HO357 hb; replace HO360 := rB HO360 hb; replace HO363 := rB HO363 hb; replace HO370 := rB HO370 hb; replace HO381 := rB HO381 hb; replace BK332 := kB gb332 hb; replace BK336 := kB gb336 hb; replace BK340 := kB gb340 hb; replace BK347 := kB gb347 hb; replace BK351 := kB gb351 hb; replace HB := bS w hb; clear hb hbox hg; obtain ⟨hnc65, hnb65⟩ := nn NB332_385; obtain ⟨hnc66, hnb66⟩ := nn NB336_385; obtain ⟨hnc67, hnb67⟩ := nn NB340_385; obtain ⟨hnc68, hnb68⟩ := nn NB347_385; obtain ⟨hnc69, hnb69⟩ := nn NB351_385; obtain ⟨hcz70_0, hcz70_1, hfz70_0, hfz70_1⟩ := cz2 BK385) | ((with_reducible refine gate_callee (f := 66) rfl ?_); refine goesLM (some 63) rfl rfl Tryd.func66 (by kernel_rfl) rfl #[] rfl (by rfl) ?_; (with_reducible refine (snowlinelaw01_example.calls  t386 t387 t388 _ A9.out).mono ?_); rintro e w71 ⟨v389, rfl, ho0, hb⟩; refine ⟨_, rfl, ?_⟩; have n0_ := Aside0.mk (Kd.R_elder' (by (with_reducible repeat (first | apply Kd.R_alloc | apply Kd.R_drewN | apply Kd.R_drew)); exact (Kd.R_mono (Kd.R_far (p := ⟨gb385, 1, none⟩) (Kd.R_far (p := ⟨gb385, 0, none⟩) (Kd.R_types HO331.out BK385.out (by decide)) (fun _ hk => hk.2) (.int .i64 t382)) (fun _ hk => hk.2) (.int .i64 t383)) (fun _ h_ => h_.1))) (Kd.R_base ho0) hb); have n1_ := Aside0.mk (Kd.R_elder' (by (with_reducible repeat (first | apply Kd.R_alloc | apply Kd.R_drewN | apply Kd.R_drew)); exact (Kd.R_mono (Kd.R_far (p := ⟨gb385, 1, none⟩) (Kd.R_far (p := ⟨gb385, 0, none⟩) (Kd.R_types HO345.out BK385.out (by decide)) (fun _ hk => hk.2) (.int .i64 t382)) (fun _ hk => hk.2) (.int .i64 t383)) (fun _ h_ => h_.1))) (Kd.R_base ho0) hb); have n2_ := Aside0.mk (Kd.R_below (by (with_reducible repeat (first | apply Kd.R_alloc | apply Kd.R_drewN | apply Kd.R_drew)); exact (Kd.R_mono (Kd.R_far (p := ⟨gb385, 1, none⟩) (Kd.R_far (p := ⟨gb385, 0, none⟩) (Kd.R_types HO354.out BK385.out (by decide)) (fun _ hk => hk.2) (.int .i64 t382)) (fun _ hk => hk.2) (.int .i64 t383)) (fun _ h_ => h_.1))) hb); have n3_ := Aside0.mk (Kd.R_below (by (with_reducible repeat (first | apply Kd.R_alloc | apply Kd.R_drewN | apply Kd.R_drew)); exact (Kd.R_mono (Kd.R_far (p := ⟨gb385, 1, none⟩) (Kd.R_far (p := ⟨gb385, 0, none⟩) (Kd.R_types HO357.out BK385.out (by decide)) (fun _ hk => hk.2) (.int .i64 t382)) (fun _ hk => hk.2) (.int .i64 t383)) (fun _ h_ => h_.1))) hb); have n4_ := Aside0.mk (Kd.R_below (by (with_reducible repeat (first | apply Kd.R_alloc | apply Kd.R_drewN | apply Kd.R_drew)); exact (Kd.R_mono (Kd.R_far (p := ⟨gb385, 1, none⟩) (Kd.R_far (p := ⟨gb385, 0, none⟩) (Kd.R_types HO360.out BK385.out (by decide)) (fun _ hk => hk.2) (.int .i64 t382)) (fun _ hk => hk.2) (.int .i64 t383)) (fun _ h_ => h_.1))) hb); have n5_ := Aside0.mk (Kd.R_below (by (with_reducible repeat (first | apply Kd.R_alloc | apply Kd.R_drewN | apply Kd.R_drew)); exact (Kd.R_mono (Kd.R_far (p := ⟨gb385, 1, none⟩) (Kd.R_far (p := ⟨gb385, 0, none⟩) (Kd.R_types HO363.out BK385.out (by decide)) (fun _ hk => hk.2) (.int .i64 t382)) (fun _ hk => hk.2) (.int .i64 t383)) (fun _ h_ => h_.1))) hb); have n6_ := Aside0.mk (Kd.R_elder' (by (with_reducible repeat (first | apply Kd.R_alloc | apply Kd.R_drewN | apply Kd.R_drew)); exact (Kd.R_mono (Kd.R_far (p := ⟨gb385, 1, none⟩) (Kd.R_far (p := ⟨gb385, 0, none⟩) (Kd.R_types HO370.out BK385.out (by decide)) (fun _ hk => hk.2) (.int .i64 t382)) (fun _ hk => hk.2) (.int .i64 t383)) (fun _ h_ => h_.1))) (Kd.R_base ho0) hb); have n7_ := Aside0.mk (Kd.R_below (by (with_reducible repeat (first | apply Kd.R_alloc | apply Kd.R_drewN | apply Kd.R_drew)); exact (Kd.R_mono (Kd.R_far (p := ⟨gb385, 1, none⟩) (Kd.R_far (p := ⟨gb385, 0, none⟩) (Kd.R_types HO381.out BK385.out (by decide)) (fun _ hk => hk.2) (.int .i64 t382)) (fun _ hk => hk.2) (.int .i64 t383)) (fun _ h_ => h_.1))) hb); have n8_ := Aside0.mk (Kd.R_lower (Kd.R_new' (Kd.R_new' (Kd.R_new' ho0 (Kd.R_lt (by (with_reducible repeat (first | apply Kd.R_alloc | apply Kd.R_drewN | apply Kd.R_drew)); exact (Kd.R_mono (Kd.R_far (p := ⟨gb385, 1, none⟩) (Kd.R_far (p := ⟨gb385, 0, none⟩) (Kd.R_types HO331.out BK385.out (by decide)) (fun _ hk => hk.2) (.int .i64 t382)) (fun _ hk => hk.2) (.int .i64 t383)) (fun _ h_ => h_.1))))) (Kd.R_lt (by (with_reducible repeat (first | apply Kd.R_alloc | apply Kd.R_drewN | apply Kd.R_drew)); exact (Kd.R_mono (Kd.R_far (p := ⟨gb385, 1, none⟩) (Kd.R_far (p := ⟨gb385, 0, none⟩) (Kd.R_types HO345.out BK385.out (by decide)) (fun _ hk => hk.2) (.int .i64 t382)) (fun _ hk => hk.2) (.int .i64 t383)) (fun _ h_ => h_.1))))) (Kd.R_lt (by (with_reducible repeat (first | apply Kd.R_alloc | apply Kd.R_drewN | apply Kd.R_drew)); exact (Kd.R_mono (Kd.R_far (p := ⟨gb385, 1, none⟩) (Kd.R_far (p := ⟨gb385, 0, none⟩) (Kd.R_types HO370.out BK385.out (by decide)) (fun _ hk => hk.2) (.int .i64 t382)) (fun _ hk => hk.2) (.int .i64 t383)) (fun _ h_ => h_.1))))) (bz w)); replace BK332 := kB gb332 hb; replace BK336 := kB gb336 hb; replace BK340 := kB gb340 hb; replace BK347 := kB gb347 hb; replace BK351 := kB gb351 hb; replace BK385 := kBo gb385 (.cells #[.int .i64 t382, .int .i64 t383] 40 (0, 0)) hb (by rfl); replace HB := bS w hb; clear HO331 HO345 HO354 HO357 HO360 HO363 HO370 HO381; have HO331 := n0_; have HO345 := n1_; have HO354 := n2_; have HO357 := n3_; have HO360 := n4_; have HO363 := n5_; have HO370 := n6_; have HO381 := n7_; have HO390 := n8_; clear n0_ n1_ n2_ n3_ n4_ n5_ n6_ n7_ n8_; (try clear hb); (try clear ho0)) | ((with_reducible refine gate_callee (f := 67) rfl ?_); refine goesLM (some 64) rfl rfl Tryd.func67 (by kernel_rfl) rfl #[] rfl (by rfl) ?_; (with_reducible refine (snowlinelaw01_sheet.calls  t391 t392 t393 t394 t395 t396 t397 t398 t399 _ A10.out).mono ?_); rintro e w72 ⟨v400, rfl, ho0, hb⟩; refine ⟨_, rfl, ?_⟩; have n7_ := Aside0.mk (Kd.R_elder' (by (with_reducible repeat (first | apply Kd.R_alloc | apply Kd.R_drewN | apply Kd.R_drew)); exact HO381.out) (Kd.R_base ho0) hb); have n9_ := Aside0.mk (Kd.R_lower (Kd.R_new' ho0 (Kd.R_lt (by (with_reducible repeat (first | apply Kd.R_alloc | apply Kd.R_drewN | apply Kd.R_drew)); exact HO381.out))) (bz w)); replace HO331 := rB HO331 hb; replace HO345 := rB HO345 hb; replace HO354 := rB HO354 hb; replace HO357 := rB HO357 hb; replace HO360 := rB HO360 hb; replace HO363 := rB HO363 hb; replace HO370 := rB HO370 hb; replace HO390 := rB HO390 hb; replace BK332 := kB gb332 hb; replace BK336 := kB gb336 hb; replace BK340 := kB gb340 hb; replace BK347 := kB gb347 hb; replace BK351 := kB gb351 hb; replace BK385 := kB gb385 hb; replace HB := bS w hb; clear HO381; have HO381 := n7_; have HO401 := n9_; clear n7_ n9_; (try clear hb); (try clear ho0); obtain ⟨Ao73, co73, eo73⟩ := Kd.R_slice HO390.out; subst eo73; obtain ⟨Ao74, co74, eo74⟩ := Kd.R_slice HO401.out; subst eo74) | ((with_reducible refine gate_callee (f := 29) rfl ?_); refine goesLM (some 65) rfl rfl Tryd.func29 (by kernel_rfl) rfl #[.agg #[.int .i64 t386, .int .i64 t387, .slice Ao73 t388.length co73], .agg #[.int .i64 t391, .int .i64 t392, .int .i64 t393, .int .i64 t394, .int .i64 t395, .int .i64 t396, .int .i64 t397, .int .i64 t398, .slice Ao74 t399.length co74], .int .i64 0, .int .i64 10] rfl (by rfl) ?_; (with_reducible refine (course_Water.calls k t386 t387 _ _ t388 t391 t392 t393 t394 t395 t396 t397 t398 _ _ t399 0 10 t402 t403 t404 _ ?side1 ?side2 ?side3 ?side4 A11.out).mono ?_); (case side1 => exact cP (Kd.R_reads' HO390.out).2.2); (case side2 => exact (Kd.R_reads' HO390.out).2.1); (case side3 => exact cP (Kd.R_reads' HO401.out).2.2); (case side4 => exact (Kd.R_reads' HO401.out).2.1); rintro e w75 ⟨rfl, hb⟩; refine ⟨_, rfl, ?_⟩; replace HO331 := rB HO331 hb; replace HO345 := rB HO345 hb; replace HO354 := rB HO354 hb; replace HO357 := rB HO357 hb; replace HO360 := rB HO360 hb; replace HO363 := rB HO363 hb; replace HO370 := rB HO370 hb; replace HO381 := rB HO381 hb; replace HO390 := rB HO390 hb; replace HO401 := rB HO401 hb; replace BK332 := kB gb332 hb; replace BK336 := kB gb336 hb; replace BK340 := kB gb340 hb; replace BK347 := kB gb347 hb; replace BK351 := kB gb351 hb; replace BK385 := kB gb385 hb; replace HB := bS w hb; (try clear hb)) | ((with_reducible refine gate_dst (N := 15) rfl ?_); (try (refine gate_guard (by rfl) ?_; dsimp only)); refine bxE 15 40 #[.int .i64 0, .int .i64 0] (by rfl) (by rfl) (by first | (go_simp; done) | (go_simp; rfl)) ?_; intro gb405 hg w76 hbox hb; have BK405 := Bk.mk (hbox); have GE405 := eB w hg; have NB332_405 := nB gb332 hg; have NB336_405 := nB gb336 hg; have NB340_405 := nB gb340 hg; have NB347_405 := nB gb347 hg; have NB351_405 := nB gb351 hg; have NB385_405 := nB gb385 hg; replace HO331 := rB HO331 hb; replace HO345 := rB HO345 hb; replace HO354 := rB HO354 hb; replace HO357 := rB HO357 hb; replace HO360 := rB HO360 hb; replace HO363 := rB HO363 hb; replace HO370 := rB HO370 hb; replace HO381 := rB HO381 hb; replace HO390 := rB HO390 hb; replace HO401 := rB HO401 hb; replace BK332 := kB gb332 hb; replace BK336 := kB gb336 hb; replace BK340 := kB gb340 hb; replace BK347 := kB gb347 hb; replace BK351 := kB gb351 hb; replace BK385 := kB gb385 hb; replace HB := bS w hb; clear hb hbox hg; obtain ⟨hnc77, hnb77⟩ := nn NB332_405; obtain ⟨hnc78, hnb78⟩ := nn NB336_405; obtain ⟨hnc79, hnb79⟩ := nn NB340_405; obtain ⟨hnc80, hnb80⟩ := nn NB347_405; obtain ⟨hnc81, hnb81⟩ := nn NB351_405; obtain ⟨hnc82, hnb82⟩ := nn NB385_405; obtain ⟨hcz83_0, hcz83_1, hfz83_0, hfz83_1⟩ := cz2 BK405) | ((with_reducible refine gate_callee (f := 66) rfl ?_); refine goesLM (some 69) rfl rfl Tryd.func66 (by kernel_rfl) rfl #[] rfl (by rfl) ?_; (with_reducible refine (snowlinelaw01_example.calls  t406 t407 t408 _ A12.out).mono ?_); rintro e w84 ⟨v409, rfl, ho0, hb⟩; refine ⟨_, rfl, ?_⟩; have n0_ := Aside0.mk (Kd.R_elder' (by (with_reducible repeat (first | apply Kd.R_alloc | apply Kd.R_drewN | apply Kd.R_drew)); exact (Kd.R_mono (Kd.R_far (p := ⟨gb405, 1, none⟩) (Kd.R_far (p := ⟨gb405, 0, none⟩) (Kd.R_types HO331.out BK405.out (by decide)) (fun _ hk => hk.2) (.int .i64 t402)) (fun _ hk => hk.2) (.int .i64 t403)) (fun _ h_ => h_.1))) (Kd.R_base ho0) hb); have n1_ := Aside0.mk (Kd.R_elder' (by (with_reducible repeat (first | apply Kd.R_alloc | apply Kd.R_drewN | apply Kd.R_drew)); exact (Kd.R_mono (Kd.R_far (p := ⟨gb405, 1, none⟩) (Kd.R_far (p := ⟨gb405, 0, none⟩) (Kd.R_types HO345.out BK405.out (by decide)) (fun _ hk => hk.2) (.int .i64 t402)) (fun _ hk => hk.2) (.int .i64 t403)) (fun _ h_ => h_.1))) (Kd.R_base ho0) hb); have n2_ := Aside0.mk (Kd.R_below (by (with_reducible repeat (first | apply Kd.R_alloc | apply Kd.R_drewN | apply Kd.R_drew)); exact (Kd.R_mono (Kd.R_far (p := ⟨gb405, 1, none⟩) (Kd.R_far (p := ⟨gb405, 0, none⟩) (Kd.R_types HO354.out BK405.out (by decide)) (fun _ hk => hk.2) (.int .i64 t402)) (fun _ hk => hk.2) (.int .i64 t403)) (fun _ h_ => h_.1))) hb); have n3_ := Aside0.mk (Kd.R_below (by (with_reducible repeat (first | apply Kd.R_alloc | apply Kd.R_drewN | apply Kd.R_drew)); exact (Kd.R_mono (Kd.R_far (p := ⟨gb405, 1, none⟩) (Kd.R_far (p := ⟨gb405, 0, none⟩) (Kd.R_types HO357.out BK405.out (by decide)) (fun _ hk => hk.2) (.int .i64 t402)) (fun _ hk => hk.2) (.int .i64 t403)) (fun _ h_ => h_.1))) hb); have n4_ := Aside0.mk (Kd.R_below (by (with_reducible repeat (first | apply Kd.R_alloc | apply Kd.R_drewN | apply Kd.R_drew)); exact (Kd.R_mono (Kd.R_far (p := ⟨gb405, 1, none⟩) (Kd.R_far (p := ⟨gb405, 0, none⟩) (Kd.R_types HO360.out BK405.out (by decide)) (fun _ hk => hk.2) (.int .i64 t402)) (fun _ hk => hk.2) (.int .i64 t403)) (fun _ h_ => h_.1))) hb); have n5_ := Aside0.mk (Kd.R_below (by (with_reducible repeat (first | apply Kd.R_alloc | apply Kd.R_drewN | apply Kd.R_drew)); exact (Kd.R_mono (Kd.R_far (p := ⟨gb405, 1, none⟩) (Kd.R_far (p := ⟨gb405, 0, none⟩) (Kd.R_types HO363.out BK405.out (by decide)) (fun _ hk => hk.2) (.int .i64 t402)) (fun _ hk => hk.2) (.int .i64 t403)) (fun _ h_ => h_.1))) hb); have n6_ := Aside0.mk (Kd.R_elder' (by (with_reducible repeat (first | apply Kd.R_alloc | apply Kd.R_drewN | apply Kd.R_drew)); exact (Kd.R_mono (Kd.R_far (p := ⟨gb405, 1, none⟩) (Kd.R_far (p := ⟨gb405, 0, none⟩) (Kd.R_types HO370.out BK405.out (by decide)) (fun _ hk => hk.2) (.int .i64 t402)) (fun _ hk => hk.2) (.int .i64 t403)) (fun _ h_ => h_.1))) (Kd.R_base ho0) hb); have n7_ := Aside0.mk (Kd.R_below (by (with_reducible repeat (first | apply Kd.R_alloc | apply Kd.R_drewN | apply Kd.R_drew)); exact (Kd.R_mono (Kd.R_far (p := ⟨gb405, 1, none⟩) (Kd.R_far (p := ⟨gb405, 0, none⟩) (Kd.R_types HO381.out BK405.out (by decide)) (fun _ hk => hk.2) (.int .i64 t402)) (fun _ hk => hk.2) (.int .i64 t403)) (fun _ h_ => h_.1))) hb); have n8_ := Aside0.mk (Kd.R_elder' (by (with_reducible repeat (first | apply Kd.R_alloc | apply Kd.R_drewN | apply Kd.R_drew)); exact (Kd.R_mono (Kd.R_far (p := ⟨gb405, 1, none⟩) (Kd.R_far (p := ⟨gb405, 0, none⟩) (Kd.R_types HO390.out BK405.out (by decide)) (fun _ hk => hk.2) (.int .i64 t402)) (fun _ hk => hk.2) (.int .i64 t403)) (fun _ h_ => h_.1))) (Kd.R_base ho0) hb); have n9_ := Aside0.mk (Kd.R_below (by (with_reducible repeat (first | apply Kd.R_alloc | apply Kd.R_drewN | apply Kd.R_drew)); exact (Kd.R_mono (Kd.R_far (p := ⟨gb405, 1, none⟩) (Kd.R_far (p := ⟨gb405, 0, none⟩) (Kd.R_types HO401.out BK405.out (by decide)) (fun _ hk => hk.2) (.int .i64 t402)) (fun _ hk => hk.2) (.int .i64 t403)) (fun _ h_ => h_.1))) hb); have n10_ := Aside0.mk (Kd.R_lower (Kd.R_new' (Kd.R_new' (Kd.R_new' (Kd.R_new' ho0 (Kd.R_lt (by (with_reducible repeat (first | apply Kd.R_alloc | apply Kd.R_drewN | apply Kd.R_drew)); exact (Kd.R_mono (Kd.R_far (p := ⟨gb405, 1, none⟩) (Kd.R_far (p := ⟨gb405, 0, none⟩) (Kd.R_types HO331.out BK405.out (by decide)) (fun _ hk => hk.2) (.int .i64 t402)) (fun _ hk => hk.2) (.int .i64 t403)) (fun _ h_ => h_.1))))) (Kd.R_lt (by (with_reducible repeat (first | apply Kd.R_alloc | apply Kd.R_drewN | apply Kd.R_drew)); exact (Kd.R_mono (Kd.R_far (p := ⟨gb405, 1, none⟩) (Kd.R_far (p := ⟨gb405, 0, none⟩) (Kd.R_types HO345.out BK405.out (by decide)) (fun _ hk => hk.2) (.int .i64 t402)) (fun _ hk => hk.2) (.int .i64 t403)) (fun _ h_ => h_.1))))) (Kd.R_lt (by (with_reducible repeat (first | apply Kd.R_alloc | apply Kd.R_drewN | apply Kd.R_drew)); exact (Kd.R_mono (Kd.R_far (p := ⟨gb405, 1, none⟩) (Kd.R_far (p := ⟨gb405, 0, none⟩) (Kd.R_types HO370.out BK405.out (by decide)) (fun _ hk => hk.2) (.int .i64 t402)) (fun _ hk => hk.2) (.int .i64 t403)) (fun _ h_ => h_.1))))) (Kd.R_lt (by (with_reducible repeat (first | apply Kd.R_alloc | apply Kd.R_drewN | apply Kd.R_drew)); exact (Kd.R_mono (Kd.R_far (p := ⟨gb405, 1, none⟩) (Kd.R_far (p := ⟨gb405, 0, none⟩) (Kd.R_types HO390.out BK405.out (by decide)) (fun _ hk => hk.2) (.int .i64 t402)) (fun _ hk => hk.2) (.int .i64 t403)) (fun _ h_ => h_.1))))) (bz w)); replace BK332 := kB gb332 hb; replace BK336 := kB gb336 hb; replace BK340 := kB gb340 hb; replace BK347 := kB gb347 hb; replace BK351 := kB gb351 hb; replace BK385 := kB gb385 hb; replace BK405 := kBo gb405 (.cells #[.int .i64 t402, .int .i64 t403] 40 (0, 0)) hb (by rfl); replace HB := bS w hb; clear HO331 HO345 HO354 HO357 HO360 HO363 HO370 HO381 HO390 HO401; have HO331 := n0_; have HO345 := n1_; have HO354 := n2_; have HO357 := n3_; have HO360 := n4_; have HO363 := n5_; have HO370 := n6_; have HO381 := n7_; have HO390 := n8_; have HO401 := n9_; have HO410 := n10_; clear n0_ n1_ n2_ n3_ n4_ n5_ n6_ n7_ n8_ n9_ n10_; (try clear hb); (try clear ho0)) | ((with_reducible refine gate_callee (f := 67) rfl ?_); refine goesLM (some 70) rfl rfl Tryd.func67 (by kernel_rfl) rfl #[] rfl (by rfl) ?_; (with_reducible refine (snowlinelaw01_sheet.calls  t411 t412 t413 t414 t415 t416 t417 t418 t419 _ A13.out).mono ?_); rintro e w85 ⟨v420, rfl, ho0, hb⟩; refine ⟨_, rfl, ?_⟩; have n7_ := Aside0.mk (Kd.R_elder' (by (with_reducible repeat (first | apply Kd.R_alloc | apply Kd.R_drewN | apply Kd.R_drew)); exact HO381.out) (Kd.R_base ho0) hb); have n9_ := Aside0.mk (Kd.R_elder' (by (with_reducible repeat (first | apply Kd.R_alloc | apply Kd.R_drewN | apply Kd.R_drew)); exact HO401.out) (Kd.R_base ho0) hb); have n11_ := Aside0.mk (Kd.R_lower (Kd.R_new' (Kd.R_new' ho0 (Kd.R_lt (by (with_reducible repeat (first | apply Kd.R_alloc | apply Kd.R_drewN | apply Kd.R_drew)); exact HO381.out))) (Kd.R_lt (by (with_reducible repeat (first | apply Kd.R_alloc | apply Kd.R_drewN | apply Kd.R_drew)); exact HO401.out))) (bz w)); replace HO331 := rB HO331 hb; replace HO345 := rB HO345 hb; replace HO354 := rB HO354 hb; replace HO357 := rB HO357 hb; replace HO360 := rB HO360 hb; replace HO363 := rB HO363 hb; replace HO370 := rB HO370 hb; replace HO390 := rB HO390 hb; replace HO410 := rB HO410 hb; replace BK332 := kB gb332 hb; replace BK336 := kB gb336 hb; replace BK340 := kB gb340 hb; replace BK347 := kB gb347 hb; replace BK351 := kB gb351 hb; replace BK385 := kB gb385 hb; replace BK405 := kB gb405 hb; replace HB := bS w hb; clear HO381 HO401; have HO381 := n7_; have HO401 := n9_; have HO421 := n11_; clear n7_ n9_ n11_; (try clear hb); (try clear ho0); obtain ⟨Ao86, co86, eo86⟩ := Kd.R_slice HO410.out; subst eo86; obtain ⟨Ao87, co87, eo87⟩ := Kd.R_slice HO421.out; subst eo87) | ((with_reducible refine gate_callee (f := 44) rfl ?_); refine goesLM (some 71) rfl rfl Tryd.func44 (by kernel_rfl) rfl #[.agg #[.int .i64 t406, .int .i64 t407, .slice Ao86 t408.length co86], .agg #[.int .i64 t411, .int .i64 t412, .int .i64 t413, .int .i64 t414, .int .i64 t415, .int .i64 t416, .int .i64 t417, .int .i64 t418, .slice Ao87 t419.length co87], .int .i64 0, .int .i64 10] rfl (by rfl) ?_; (with_reducible refine (course_Density.calls k t406 t407 _ _ t408 t411 t412 t413 t414 t415 t416 t417 t418 _ _ t419 0 10 t422 t423 t424 _ ?side1 ?side2 ?side3 ?side4 A14.out).mono ?_); (case side1 => exact cP (Kd.R_reads' HO410.out).2.2); (case side2 => exact (Kd.R_reads' HO410.out).2.1); (case side3 => exact cP (Kd.R_reads' HO421.out).2.2); (case side4 => exact (Kd.R_reads' HO421.out).2.1); rintro e w88 ⟨rfl, hb⟩; refine ⟨_, rfl, ?_⟩; replace HO331 := rB HO331 hb; replace HO345 := rB HO345 hb; replace HO354 := rB HO354 hb; replace HO357 := rB HO357 hb; replace HO360 := rB HO360 hb; replace HO363 := rB HO363 hb; replace HO370 := rB HO370 hb; replace HO381 := rB HO381 hb; replace HO390 := rB HO390 hb; replace HO401 := rB HO401 hb; replace HO410 := rB HO410 hb; replace HO421 := rB HO421 hb; replace BK332 := kB gb332 hb; replace BK336 := kB gb336 hb; replace BK340 := kB gb340 hb; replace BK347 := kB gb347 hb; replace BK351 := kB gb351 hb; replace BK385 := kB gb385 hb; replace BK405 := kB gb405 hb; replace HB := bS w hb; (try clear hb)) | ((with_reducible refine gate_dst (N := 17) rfl ?_); (try (refine gate_guard (by rfl) ?_; dsimp only)); refine bxE 17 40 #[.int .i64 0, .int .i64 0] (by rfl) (by rfl) (by first | (go_simp; done) | (go_simp; rfl)) ?_; intro gb425 hg w89 hbox hb; have BK425 := Bk.mk (hbox); have GE425 := eB w hg; have NB332_425 := nB gb332 hg; have NB336_425 := nB gb336 hg; have NB340_425 := nB gb340 hg; have NB347_425 := nB gb347 hg; have NB351_425 := nB gb351 hg; have NB385_425 := nB gb385 hg; have NB405_425 := nB gb405 hg; replace HO331 := rB HO331 hb; replace HO345 := rB HO345 hb; replace HO354 := rB HO354 hb; replace HO357 := rB HO357 hb; replace HO360 := rB HO360 hb; replace HO363 := rB HO363 hb; replace HO370 := rB HO370 hb; replace HO381 := rB HO381 hb; replace HO390 := rB HO390 hb; replace HO401 := rB HO401 hb; replace HO410 := rB HO410 hb; replace HO421 := rB HO421 hb; replace BK332 := kB gb332 hb; replace BK336 := kB gb336 hb; replace BK340 := kB gb340 hb; replace BK347 := kB gb347 hb; replace BK351 := kB gb351 hb; replace BK385 := kB gb385 hb; replace BK405 := kB gb405 hb; replace HB := bS w hb; clear hb hbox hg; obtain ⟨hnc90, hnb90⟩ := nn NB332_425; obtain ⟨hnc91, hnb91⟩ := nn NB336_425; obtain ⟨hnc92, hnb92⟩ := nn NB340_425; obtain ⟨hnc93, hnb93⟩ := nn NB347_425; obtain ⟨hnc94, hnb94⟩ := nn NB351_425; obtain ⟨hnc95, hnb95⟩ := nn NB385_425; obtain ⟨hnc96, hnb96⟩ := nn NB405_425; obtain ⟨hcz97_0, hcz97_1, hfz97_0, hfz97_1⟩ := cz2 BK425) | ((with_reducible refine gate_callee (f := 67) rfl ?_); refine goesLM (some 75) rfl rfl Tryd.func67 (by kernel_rfl) rfl #[] rfl (by rfl) ?_; (with_reducible refine (snowlinelaw01_sheet.calls  t426 t427 t428 t429 t430 t431 t432 t433 t434 _ A15.out).mono ?_); rintro e w98 ⟨v435, rfl, ho0, hb⟩; refine ⟨_, rfl, ?_⟩; have n0_ := Aside0.mk (Kd.R_below (by (with_reducible repeat (first | apply Kd.R_alloc | apply Kd.R_drewN | apply Kd.R_drew)); exact (Kd.R_mono (Kd.R_far (p := ⟨gb425, 1, none⟩) (Kd.R_far (p := ⟨gb425, 0, none⟩) (Kd.R_types HO331.out BK425.out (by decide)) (fun _ hk => hk.2) (.int .i64 t422)) (fun _ hk => hk.2) (.int .i64 t423)) (fun _ h_ => h_.1))) hb); have n1_ := Aside0.mk (Kd.R_below (by (with_reducible repeat (first | apply Kd.R_alloc | apply Kd.R_drewN | apply Kd.R_drew)); exact (Kd.R_mono (Kd.R_far (p := ⟨gb425, 1, none⟩) (Kd.R_far (p := ⟨gb425, 0, none⟩) (Kd.R_types HO345.out BK425.out (by decide)) (fun _ hk => hk.2) (.int .i64 t422)) (fun _ hk => hk.2) (.int .i64 t423)) (fun _ h_ => h_.1))) hb); have n2_ := Aside0.mk (Kd.R_below (by (with_reducible repeat (first | apply Kd.R_alloc | apply Kd.R_drewN | apply Kd.R_drew)); exact (Kd.R_mono (Kd.R_far (p := ⟨gb425, 1, none⟩) (Kd.R_far (p := ⟨gb425, 0, none⟩) (Kd.R_types HO354.out BK425.out (by decide)) (fun _ hk => hk.2) (.int .i64 t422)) (fun _ hk => hk.2) (.int .i64 t423)) (fun _ h_ => h_.1))) hb); have n3_ := Aside0.mk (Kd.R_below (by (with_reducible repeat (first | apply Kd.R_alloc | apply Kd.R_drewN | apply Kd.R_drew)); exact (Kd.R_mono (Kd.R_far (p := ⟨gb425, 1, none⟩) (Kd.R_far (p := ⟨gb425, 0, none⟩) (Kd.R_types HO357.out BK425.out (by decide)) (fun _ hk => hk.2) (.int .i64 t422)) (fun _ hk => hk.2) (.int .i64 t423)) (fun _ h_ => h_.1))) hb); have n4_ := Aside0.mk (Kd.R_below (by (with_reducible repeat (first | apply Kd.R_alloc | apply Kd.R_drewN | apply Kd.R_drew)); exact (Kd.R_mono (Kd.R_far (p := ⟨gb425, 1, none⟩) (Kd.R_far (p := ⟨gb425, 0, none⟩) (Kd.R_types HO360.out BK425.out (by decide)) (fun _ hk => hk.2) (.int .i64 t422)) (fun _ hk => hk.2) (.int .i64 t423)) (fun _ h_ => h_.1))) hb); have n5_ := Aside0.mk (Kd.R_below (by (with_reducible repeat (first | apply Kd.R_alloc | apply Kd.R_drewN | apply Kd.R_drew)); exact (Kd.R_mono (Kd.R_far (p := ⟨gb425, 1, none⟩) (Kd.R_far (p := ⟨gb425, 0, none⟩) (Kd.R_types HO363.out BK425.out (by decide)) (fun _ hk => hk.2) (.int .i64 t422)) (fun _ hk => hk.2) (.int .i64 t423)) (fun _ h_ => h_.1))) hb); have n6_ := Aside0.mk (Kd.R_below (by (with_reducible repeat (first | apply Kd.R_alloc | apply Kd.R_drewN | apply Kd.R_drew)); exact (Kd.R_mono (Kd.R_far (p := ⟨gb425, 1, none⟩) (Kd.R_far (p := ⟨gb425, 0, none⟩) (Kd.R_types HO370.out BK425.out (by decide)) (fun _ hk => hk.2) (.int .i64 t422)) (fun _ hk => hk.2) (.int .i64 t423)) (fun _ h_ => h_.1))) hb); have n7_ := Aside0.mk (Kd.R_elder' (by (with_reducible repeat (first | apply Kd.R_alloc | apply Kd.R_drewN | apply Kd.R_drew)); exact (Kd.R_mono (Kd.R_far (p := ⟨gb425, 1, none⟩) (Kd.R_far (p := ⟨gb425, 0, none⟩) (Kd.R_types HO381.out BK425.out (by decide)) (fun _ hk => hk.2) (.int .i64 t422)) (fun _ hk => hk.2) (.int .i64 t423)) (fun _ h_ => h_.1))) (Kd.R_base ho0) hb); have n8_ := Aside0.mk (Kd.R_below (by (with_reducible repeat (first | apply Kd.R_alloc | apply Kd.R_drewN | apply Kd.R_drew)); exact (Kd.R_mono (Kd.R_far (p := ⟨gb425, 1, none⟩) (Kd.R_far (p := ⟨gb425, 0, none⟩) (Kd.R_types HO390.out BK425.out (by decide)) (fun _ hk => hk.2) (.int .i64 t422)) (fun _ hk => hk.2) (.int .i64 t423)) (fun _ h_ => h_.1))) hb); have n9_ := Aside0.mk (Kd.R_elder' (by (with_reducible repeat (first | apply Kd.R_alloc | apply Kd.R_drewN | apply Kd.R_drew)); exact (Kd.R_mono (Kd.R_far (p := ⟨gb425, 1, none⟩) (Kd.R_far (p := ⟨gb425, 0, none⟩) (Kd.R_types HO401.out BK425.out (by decide)) (fun _ hk => hk.2) (.int .i64 t422)) (fun _ hk => hk.2) (.int .i64 t423)) (fun _ h_ => h_.1))) (Kd.R_base ho0) hb); have n10_ := Aside0.mk (Kd.R_below (by (with_reducible repeat (first | apply Kd.R_alloc | apply Kd.R_drewN | apply Kd.R_drew)); exact (Kd.R_mono (Kd.R_far (p := ⟨gb425, 1, none⟩) (Kd.R_far (p := ⟨gb425, 0, none⟩) (Kd.R_types HO410.out BK425.out (by decide)) (fun _ hk => hk.2) (.int .i64 t422)) (fun _ hk => hk.2) (.int .i64 t423)) (fun _ h_ => h_.1))) hb); have n11_ := Aside0.mk (Kd.R_elder' (by (with_reducible repeat (first | apply Kd.R_alloc | apply Kd.R_drewN | apply Kd.R_drew)); exact (Kd.R_mono (Kd.R_far (p := ⟨gb425, 1, none⟩) (Kd.R_far (p := ⟨gb425, 0, none⟩) (Kd.R_types HO421.out BK425.out (by decide)) (fun _ hk => hk.2) (.int .i64 t422)) (fun _ hk => hk.2) (.int .i64 t423)) (fun _ h_ => h_.1))) (Kd.R_base ho0) hb); have n12_ := Aside0.mk (Kd.R_lower (Kd.R_new' (Kd.R_new' (Kd.R_new' ho0 (Kd.R_lt (by (with_reducible repeat (first | apply Kd.R_alloc | apply Kd.R_drewN | apply Kd.R_drew)); exact (Kd.R_mono (Kd.R_far (p := ⟨gb425, 1, none⟩) (Kd.R_far (p := ⟨gb425, 0, none⟩) (Kd.R_types HO381.out BK425.out (by decide)) (fun _ hk => hk.2) (.int .i64 t422)) (fun _ hk => hk.2) (.int .i64 t423)) (fun _ h_ => h_.1))))) (Kd.R_lt (by (with_reducible repeat (first | apply Kd.R_alloc | apply Kd.R_drewN | apply Kd.R_drew)); exact (Kd.R_mono (Kd.R_far (p := ⟨gb425, 1, none⟩) (Kd.R_far (p := ⟨gb425, 0, none⟩) (Kd.R_types HO401.out BK425.out (by decide)) (fun _ hk => hk.2) (.int .i64 t422)) (fun _ hk => hk.2) (.int .i64 t423)) (fun _ h_ => h_.1))))) (Kd.R_lt (by (with_reducible repeat (first | apply Kd.R_alloc | apply Kd.R_drewN | apply Kd.R_drew)); exact (Kd.R_mono (Kd.R_far (p := ⟨gb425, 1, none⟩) (Kd.R_far (p := ⟨gb425, 0, none⟩) (Kd.R_types HO421.out BK425.out (by decide)) (fun _ hk => hk.2) (.int .i64 t422)) (fun _ hk => hk.2) (.int .i64 t423)) (fun _ h_ => h_.1))))) (bz w)); replace BK332 := kB gb332 hb; replace BK336 := kB gb336 hb; replace BK340 := kB gb340 hb; replace BK347 := kB gb347 hb; replace BK351 := kB gb351 hb; replace BK385 := kB gb385 hb; replace BK405 := kB gb405 hb; replace BK425 := kBo gb425 (.cells #[.int .i64 t422, .int .i64 t423] 40 (0, 0)) hb (by rfl); replace HB := bS w hb; clear HO331 HO345 HO354 HO357 HO360 HO363 HO370 HO381 HO390 HO401 HO410 HO421; have HO331 := n0_; have HO345 := n1_; have HO354 := n2_; have HO357 := n3_; have HO360 := n4_; have HO363 := n5_; have HO370 := n6_; have HO381 := n7_; have HO390 := n8_; have HO401 := n9_; have HO410 := n10_; have HO421 := n11_; have HO436 := n12_; clear n0_ n1_ n2_ n3_ n4_ n5_ n6_ n7_ n8_ n9_ n10_ n11_ n12_; (try clear hb); (try clear ho0); obtain ⟨Ao99, co99, eo99⟩ := Kd.R_slice HO436.out; subst eo99) | ((with_reducible refine gate_callee (f := 68) rfl ?_); refine goesLM (some 76) rfl rfl Tryd.func68 (by kernel_rfl) rfl #[.agg #[.int .i64 t426, .int .i64 t427, .int .i64 t428, .int .i64 t429, .int .i64 t430, .int .i64 t431, .int .i64 t432, .int .i64 t433, .slice Ao99 t434.length co99]] rfl (by rfl) ?_; (with_reducible refine (course_PrintSheet.calls k t426 t427 t428 t429 t430 t431 t432 t433 _ _ t434 t437 t438 _ ?side1 ?side2 ?side3 A16.out).mono ?_); (case side1 => exact TabH.below hT (bw w)); (case side2 => exact cP (Kd.R_reads' HO436.out).2.2); (case side3 => exact (Kd.R_reads' HO436.out).2.1); rintro e w100 ⟨rfl, hb⟩; refine ⟨_, rfl, ?_⟩; replace HO331 := rB HO331 hb; replace HO345 := rB HO345 hb; replace HO354 := rB HO354 hb; replace HO357 := rB HO357 hb; replace HO360 := rB HO360 hb; replace HO363 := rB HO363 hb; replace HO370 := rB HO370 hb; replace HO381 := rB HO381 hb; replace HO390 := rB HO390 hb; replace HO401 := rB HO401 hb; replace HO410 := rB HO410 hb; replace HO421 := rB HO421 hb; replace HO436 := rB HO436 hb; replace BK332 := kB gb332 hb; replace BK336 := kB gb336 hb; replace BK340 := kB gb340 hb; replace BK347 := kB gb347 hb; replace BK351 := kB gb351 hb; replace BK385 := kB gb385 hb; replace BK405 := kB gb405 hb; replace BK425 := kB gb425 hb; replace HB := bS w hb; (try clear hb); obtain ⟨hcz101_0, hcz101_1, hcz101_2, hfz101_0, hfz101_1, hfz101_2⟩ := cz3 BK332) | ((with_reducible refine gate_callee (f := 16) rfl ?_); refine goesLM (some 82) rfl rfl Tryd.func16 (by kernel_rfl) rfl #[.agg #[.int .i64 0, .int .i64 2, .slice Ao21 y329.length co21], .agg #[.int .i64 12, .int .i64 0, .int .i64 6, .int .i64 7]] rfl (by rfl) ?_; (with_reducible refine (course_AddTest.calls k 0 2 _ _ y329 12 0 6 7 t439 t440 t441 t444 _ ?side1 ?side2 A17.out).mono ?_); (case side1 => exact cP (Kd.R_reads' HO331.out).2.2); (case side2 => exact (Kd.R_reads' HO331.out).2.1); rintro e w102 ⟨v442, rfl, ho0, hb⟩; refine ⟨_, rfl, ?_⟩; have n0_ := Aside0.mk (Kd.R_elder' (by (with_reducible repeat (first | apply Kd.R_alloc | apply Kd.R_drewN | apply Kd.R_drew)); exact HO331.out) (Kd.R_base ho0) hb); have n1_ := Aside0.mk (Kd.R_elder' (by (with_reducible repeat (first | apply Kd.R_alloc | apply Kd.R_drewN | apply Kd.R_drew)); exact HO345.out) (Kd.R_base ho0) hb); have n6_ := Aside0.mk (Kd.R_elder' (by (with_reducible repeat (first | apply Kd.R_alloc | apply Kd.R_drewN | apply Kd.R_drew)); exact HO370.out) (Kd.R_base ho0) hb); have n8_ := Aside0.mk (Kd.R_elder' (by (with_reducible repeat (first | apply Kd.R_alloc | apply Kd.R_drewN | apply Kd.R_drew)); exact HO390.out) (Kd.R_base ho0) hb); have n10_ := Aside0.mk (Kd.R_elder' (by (with_reducible repeat (first | apply Kd.R_alloc | apply Kd.R_drewN | apply Kd.R_drew)); exact HO410.out) (Kd.R_base ho0) hb); have n13_ := Aside0.mk (Kd.R_lower (Kd.R_new' (Kd.R_new' (Kd.R_new' (Kd.R_new' (Kd.R_new' ho0 (Kd.R_lt (by (with_reducible repeat (first | apply Kd.R_alloc | apply Kd.R_drewN | apply Kd.R_drew)); exact HO331.out))) (Kd.R_lt (by (with_reducible repeat (first | apply Kd.R_alloc | apply Kd.R_drewN | apply Kd.R_drew)); exact HO345.out))) (Kd.R_lt (by (with_reducible repeat (first | apply Kd.R_alloc | apply Kd.R_drewN | apply Kd.R_drew)); exact HO370.out))) (Kd.R_lt (by (with_reducible repeat (first | apply Kd.R_alloc | apply Kd.R_drewN | apply Kd.R_drew)); exact HO390.out))) (Kd.R_lt (by (with_reducible repeat (first | apply Kd.R_alloc | apply Kd.R_drewN | apply Kd.R_drew)); exact HO410.out))) (bz w)); replace HO354 := rB HO354 hb; replace HO357 := rB HO357 hb; replace HO360 := rB HO360 hb; replace HO363 := rB HO363 hb; replace HO381 := rB HO381 hb; replace HO401 := rB HO401 hb; replace HO421 := rB HO421 hb; replace HO436 := rB HO436 hb; replace BK332 := kB gb332 hb; replace BK336 := kB gb336 hb; replace BK340 := kB gb340 hb; replace BK347 := kB gb347 hb; replace BK351 := kB gb351 hb; replace BK385 := kB gb385 hb; replace BK405 := kB gb405 hb; replace BK425 := kB gb425 hb; replace HB := bS w hb; clear HO331 HO345 HO370 HO390 HO410; have HO331 := n0_; have HO345 := n1_; have HO370 := n6_; have HO390 := n8_; have HO410 := n10_; have HO443 := n13_; clear n0_ n1_ n6_ n8_ n10_ n13_; (try clear hb); (try clear ho0)) | ((with_reducible refine gate_dst (N := 21) rfl ?_); (try (refine gate_guard (by rfl) ?_; dsimp only)); refine bxE 21 24 #[.int .i64 0, .int .i64 0, .slice none 0 0] (by rfl) (by rfl) (by first | (go_simp; done) | (go_simp; rfl)) ?_; intro gb445 hg w103 hbox hb; have BK445 := Bk.mk (hbox); have GE445 := eB w hg; have NB332_445 := nB gb332 hg; have NB336_445 := nB gb336 hg; have NB340_445 := nB gb340 hg; have NB347_445 := nB gb347 hg; have NB351_445 := nB gb351 hg; have NB385_445 := nB gb385 hg; have NB405_445 := nB gb405 hg; have NB425_445 := nB gb425 hg; replace HO331 := rB HO331 hb; replace HO345 := rB HO345 hb; replace HO354 := rB HO354 hb; replace HO357 := rB HO357 hb; replace HO360 := rB HO360 hb; replace HO363 := rB HO363 hb; replace HO370 := rB HO370 hb; replace HO381 := rB HO381 hb; replace HO390 := rB HO390 hb; replace HO401 := rB HO401 hb; replace HO410 := rB HO410 hb; replace HO421 := rB HO421 hb; replace HO436 := rB HO436 hb; replace HO443 := rB HO443 hb; replace BK332 := kB gb332 hb; replace BK336 := kB gb336 hb; replace BK340 := kB gb340 hb; replace BK347 := kB gb347 hb; replace BK351 := kB gb351 hb; replace BK385 := kB gb385 hb; replace BK405 := kB gb405 hb; replace BK425 := kB gb425 hb; replace HB := bS w hb; clear hb hbox hg; obtain ⟨hnc104, hnb104⟩ := nn NB332_445; obtain ⟨hnc105, hnb105⟩ := nn NB336_445; obtain ⟨hnc106, hnb106⟩ := nn NB340_445; obtain ⟨hnc107, hnb107⟩ := nn NB347_445; obtain ⟨hnc108, hnb108⟩ := nn NB351_445; obtain ⟨hnc109, hnb109⟩ := nn NB385_445; obtain ⟨hnc110, hnb110⟩ := nn NB405_445; obtain ⟨hnc111, hnb111⟩ := nn NB425_445; obtain ⟨hcz112_0, hcz112_1, hcz112_2, hfz112_0, hfz112_1, hfz112_2⟩ := cz3 BK445; obtain ⟨Ao113, co113, eo113⟩ := Kd.R_slice HO443.out; subst eo113))
 (try simp only [Act.put, List.setIfInBounds_toArray, List.set_cons_zero, List.set_cons_succ])
 go_cut [122] (fun v122 wc => ∃ (kq : Nat) (x122_17 : Bool), v122 = .bool x122_17 ∧ Aside0 (snowlinelaw01_sane.j0 kq t361 t364 t437 x122_17 t333 t334 t337 t338 t348 t349 t382 t383 t402 t403 t422 t423 = some true) ∧ Aside0 (kq ≤ k) ∧ Aside0 (Kd.R (Kd.int .i64) 3 wc w.heap.size (fun _ => True) v362 t361) ∧ Aside0 (Kd.R k26 26 wc w.heap.size (fun k_ => some k_ ≠ ((.slice Ao41 t343.length co41) : Value).ownBlock ∧ some k_ ≠ ((.slice Ao113 t441.length co113) : Value).ownBlock) (.slice Ao21 y329.length co21) y329) ∧ Aside0 (Kd.R k26 26 wc w.heap.size (fun k_ => some k_ ≠ ((.slice Ao21 y329.length co21) : Value).ownBlock ∧ some k_ ≠ ((.slice Ao113 t441.length co113) : Value).ownBlock) (.slice Ao41 t343.length co41) t343) ∧ Aside0 (Kd.R k26 26 wc w.heap.size (fun k_ => some k_ ≠ ((.slice Ao21 y329.length co21) : Value).ownBlock ∧ some k_ ≠ ((.slice Ao41 t343.length co41) : Value).ownBlock) (.slice Ao113 t441.length co113) t441) ∧ Bk wc gb332 (.cells #[.int .i64 0, .int .i64 2, (.slice Ao21 y329.length co21)] 24 (0, 0)) ∧ Bk wc gb336 (.cells #[.int .i64 t333, .int .i64 t334] 40 (0, 0)) ∧ Bk wc gb340 (.cells #[.int .i64 t337, .int .i64 t338] 40 (0, 0)) ∧ Bk wc gb347 (.cells #[.int .i64 t341, .int .i64 t342, (.slice Ao41 t343.length co41)] 24 (0, 0)) ∧ Bk wc gb351 (.cells #[.int .i64 t348, .int .i64 t349] 40 (0, 0)) ∧ Bk wc gb385 (.cells #[.int .i64 t382, .int .i64 t383] 40 (0, 0)) ∧ Bk wc gb405 (.cells #[.int .i64 t402, .int .i64 t403] 40 (0, 0)) ∧ Bk wc gb425 (.cells #[.int .i64 t422, .int .i64 t423] 40 (0, 0)) ∧ Bk wc gb445 (.cells #[.int .i64 t439, .int .i64 t440, (.slice Ao113 t441.length co113)] 24 (0, 0)) ∧ Bw w wc)
 case first =>
  have H := HC18.out
  clear HC18
  by_cases c114 : t335 = 0
  ·
   rw [if_pos c114] at H
   have c114b0 : (t335 == 0) = true := beq_iff_eq.mpr c114
   have c114b1 : (t335 != 0) = false := bne_eq_false_iff_eq.mpr c114
   clear c114
   (first | rw [c114b0] | (simp only [i64_w]; rw [c114b0]) | skip)
   by_cases c115 : t339 = 0
   ·
    rw [if_pos c115] at H
    have c115b0 : (t339 == 0) = true := beq_iff_eq.mpr c115
    have c115b1 : (t339 != 0) = false := bne_eq_false_iff_eq.mpr c115
    clear c115
    by_cases c116 : t346 = 0
    ·
     rw [if_pos c116] at H
     have c116b0 : (t346 == 0) = true := beq_iff_eq.mpr c116
     have c116b1 : (t346 != 0) = false := bne_eq_false_iff_eq.mpr c116
     clear c116
     by_cases c117 : t350 = 0
     ·
      rw [if_pos c117] at H
      have c117b0 : (t350 == 0) = true := beq_iff_eq.mpr c117
      have c117b1 : (t350 != 0) = false := bne_eq_false_iff_eq.mpr c117
      clear c117
      by_cases c118 : t365 = 0
      ·
       rw [if_pos c118] at H
       have c118b0 : (t365 == 0) = true := beq_iff_eq.mpr c118
       have c118b1 : (t365 != 0) = false := bne_eq_false_iff_eq.mpr c118
       clear c118
       by_cases c119 : t384 = 0
       ·
        rw [if_pos c119] at H
        have c119b0 : (t384 == 0) = true := beq_iff_eq.mpr c119
        have c119b1 : (t384 != 0) = false := bne_eq_false_iff_eq.mpr c119
        clear c119
        by_cases c120 : t404 = 0
        ·
         rw [if_pos c120] at H
         have c120b0 : (t404 == 0) = true := beq_iff_eq.mpr c120
         have c120b1 : (t404 != 0) = false := bne_eq_false_iff_eq.mpr c120
         clear c120
         by_cases c121 : t424 = 0
         ·
          rw [if_pos c121] at H
          have c121b0 : (t424 == 0) = true := beq_iff_eq.mpr c121
          have c121b1 : (t424 != 0) = false := bne_eq_false_iff_eq.mpr c121
          clear c121
          by_cases c122 : t438 = 0
          ·
           rw [if_pos c122] at H
           have c122b0 : (t438 == 0) = true := beq_iff_eq.mpr c122
           have c122b1 : (t438 != 0) = false := bne_eq_false_iff_eq.mpr c122
           clear c122
           have H' := Aside0.mk H
           clear H
           go_wp2
           go_meet
           case rel => exact ⟨_, ((t444 != 13)), (by first | rfl | (simp; done) | (simp [*]; done)), H', ⟨by first | omega | exact Nat.le_refl _⟩, ⟨by (with_reducible repeat (first | apply Kd.R_alloc | apply Kd.R_drewN | apply Kd.R_drew)); exact Kd.R_mono (Kd.R_far (p := ⟨gb445, 2, none⟩) (Kd.R_far (p := ⟨gb445, 1, none⟩) (Kd.R_far (p := ⟨gb445, 0, none⟩) (Kd.R_types HO363.out BK445.out (by decide)) (fun _ hk => hk.2) (.int .i64 t439)) (fun _ hk => hk.2) (.int .i64 t440)) (fun _ hk => hk.2) (.slice Ao113 t441.length co113)) (fun _ hk => trivial)⟩, ⟨by (with_reducible repeat (first | apply Kd.R_alloc | apply Kd.R_drewN | apply Kd.R_drew)); exact Kd.R_mono (Kd.R_far (p := ⟨gb445, 2, none⟩) (Kd.R_far (p := ⟨gb445, 1, none⟩) (Kd.R_far (p := ⟨gb445, 0, none⟩) (Kd.R_types HO331.out BK445.out (by decide)) (fun _ hk => hk.2) (.int .i64 t439)) (fun _ hk => hk.2) (.int .i64 t440)) (fun _ hk => hk.2) (.slice Ao113 t441.length co113)) (fun _ hk => ⟨hk.1.1.1.1.1.2, hk.1.2⟩)⟩, ⟨by (with_reducible repeat (first | apply Kd.R_alloc | apply Kd.R_drewN | apply Kd.R_drew)); exact Kd.R_mono (Kd.R_far (p := ⟨gb445, 2, none⟩) (Kd.R_far (p := ⟨gb445, 1, none⟩) (Kd.R_far (p := ⟨gb445, 0, none⟩) (Kd.R_types HO345.out BK445.out (by decide)) (fun _ hk => hk.2) (.int .i64 t439)) (fun _ hk => hk.2) (.int .i64 t440)) (fun _ hk => hk.2) (.slice Ao113 t441.length co113)) (fun _ hk => ⟨hk.1.1.1.1.1.2, hk.1.2⟩)⟩, ⟨by (with_reducible repeat (first | apply Kd.R_alloc | apply Kd.R_drewN | apply Kd.R_drew)); exact Kd.R_mono (Kd.R_far (p := ⟨gb445, 2, none⟩) (Kd.R_far (p := ⟨gb445, 1, none⟩) (Kd.R_far (p := ⟨gb445, 0, none⟩) (Kd.R_types HO443.out BK445.out (by decide)) (fun _ hk => hk.2) (.int .i64 t439)) (fun _ hk => hk.2) (.int .i64 t440)) (fun _ hk => hk.2) (.slice Ao113 t441.length co113)) (fun _ hk => ⟨hk.1.1.1.1.1.2, hk.1.1.1.1.2⟩)⟩, ⟨bko gb332 (by rfl)⟩, ⟨bko gb336 (by rfl)⟩, ⟨bko gb340 (by rfl)⟩, ⟨bko gb347 (by rfl)⟩, ⟨bko gb351 (by rfl)⟩, ⟨bko gb385 (by rfl)⟩, ⟨bko gb405 (by rfl)⟩, ⟨bko gb425 (by rfl)⟩, ⟨bko gb445 (by rfl)⟩, inferInstance⟩
          ·
           rw [if_neg c122] at H
           have c122b0 : (t438 == 0) = false := beq_eq_false_iff_ne.mpr c122
           have c122b1 : (t438 != 0) = true := bne_iff_ne.mpr c122
           have H' := Aside0.mk H
           clear H
           go_wp2
           go_meet
           case rel => exact ⟨_, (true), (by first | rfl | (simp; done) | (simp [*]; done)), H', ⟨by first | omega | exact Nat.le_refl _⟩, ⟨by (with_reducible repeat (first | apply Kd.R_alloc | apply Kd.R_drewN | apply Kd.R_drew)); exact Kd.R_mono (Kd.R_far (p := ⟨gb445, 2, none⟩) (Kd.R_far (p := ⟨gb445, 1, none⟩) (Kd.R_far (p := ⟨gb445, 0, none⟩) (Kd.R_types HO363.out BK445.out (by decide)) (fun _ hk => hk.2) (.int .i64 t439)) (fun _ hk => hk.2) (.int .i64 t440)) (fun _ hk => hk.2) (.slice Ao113 t441.length co113)) (fun _ hk => trivial)⟩, ⟨by (with_reducible repeat (first | apply Kd.R_alloc | apply Kd.R_drewN | apply Kd.R_drew)); exact Kd.R_mono (Kd.R_far (p := ⟨gb445, 2, none⟩) (Kd.R_far (p := ⟨gb445, 1, none⟩) (Kd.R_far (p := ⟨gb445, 0, none⟩) (Kd.R_types HO331.out BK445.out (by decide)) (fun _ hk => hk.2) (.int .i64 t439)) (fun _ hk => hk.2) (.int .i64 t440)) (fun _ hk => hk.2) (.slice Ao113 t441.length co113)) (fun _ hk => ⟨hk.1.1.1.1.1.2, hk.1.2⟩)⟩, ⟨by (with_reducible repeat (first | apply Kd.R_alloc | apply Kd.R_drewN | apply Kd.R_drew)); exact Kd.R_mono (Kd.R_far (p := ⟨gb445, 2, none⟩) (Kd.R_far (p := ⟨gb445, 1, none⟩) (Kd.R_far (p := ⟨gb445, 0, none⟩) (Kd.R_types HO345.out BK445.out (by decide)) (fun _ hk => hk.2) (.int .i64 t439)) (fun _ hk => hk.2) (.int .i64 t440)) (fun _ hk => hk.2) (.slice Ao113 t441.length co113)) (fun _ hk => ⟨hk.1.1.1.1.1.2, hk.1.2⟩)⟩, ⟨by (with_reducible repeat (first | apply Kd.R_alloc | apply Kd.R_drewN | apply Kd.R_drew)); exact Kd.R_mono (Kd.R_far (p := ⟨gb445, 2, none⟩) (Kd.R_far (p := ⟨gb445, 1, none⟩) (Kd.R_far (p := ⟨gb445, 0, none⟩) (Kd.R_types HO443.out BK445.out (by decide)) (fun _ hk => hk.2) (.int .i64 t439)) (fun _ hk => hk.2) (.int .i64 t440)) (fun _ hk => hk.2) (.slice Ao113 t441.length co113)) (fun _ hk => ⟨hk.1.1.1.1.1.2, hk.1.1.1.1.2⟩)⟩, ⟨bko gb332 (by rfl)⟩, ⟨bko gb336 (by rfl)⟩, ⟨bko gb340 (by rfl)⟩, ⟨bko gb347 (by rfl)⟩, ⟨bko gb351 (by rfl)⟩, ⟨bko gb385 (by rfl)⟩, ⟨bko gb405 (by rfl)⟩, ⟨bko gb425 (by rfl)⟩, ⟨bko gb445 (by rfl)⟩, inferInstance⟩
         ·
          rw [if_neg c121] at H
          have c121b0 : (t424 == 0) = false := beq_eq_false_iff_ne.mpr c121
          have c121b1 : (t424 != 0) = true := bne_iff_ne.mpr c121
          have H' := Aside0.mk H
          clear H
          go_wp2
          go_meet
          case rel => exact ⟨_, (true), (by first | rfl | (simp; done) | (simp [*]; done)), H', ⟨by first | omega | exact Nat.le_refl _⟩, ⟨by (with_reducible repeat (first | apply Kd.R_alloc | apply Kd.R_drewN | apply Kd.R_drew)); exact Kd.R_mono (Kd.R_far (p := ⟨gb445, 2, none⟩) (Kd.R_far (p := ⟨gb445, 1, none⟩) (Kd.R_far (p := ⟨gb445, 0, none⟩) (Kd.R_types HO363.out BK445.out (by decide)) (fun _ hk => hk.2) (.int .i64 t439)) (fun _ hk => hk.2) (.int .i64 t440)) (fun _ hk => hk.2) (.slice Ao113 t441.length co113)) (fun _ hk => trivial)⟩, ⟨by (with_reducible repeat (first | apply Kd.R_alloc | apply Kd.R_drewN | apply Kd.R_drew)); exact Kd.R_mono (Kd.R_far (p := ⟨gb445, 2, none⟩) (Kd.R_far (p := ⟨gb445, 1, none⟩) (Kd.R_far (p := ⟨gb445, 0, none⟩) (Kd.R_types HO331.out BK445.out (by decide)) (fun _ hk => hk.2) (.int .i64 t439)) (fun _ hk => hk.2) (.int .i64 t440)) (fun _ hk => hk.2) (.slice Ao113 t441.length co113)) (fun _ hk => ⟨hk.1.1.1.1.1.2, hk.1.2⟩)⟩, ⟨by (with_reducible repeat (first | apply Kd.R_alloc | apply Kd.R_drewN | apply Kd.R_drew)); exact Kd.R_mono (Kd.R_far (p := ⟨gb445, 2, none⟩) (Kd.R_far (p := ⟨gb445, 1, none⟩) (Kd.R_far (p := ⟨gb445, 0, none⟩) (Kd.R_types HO345.out BK445.out (by decide)) (fun _ hk => hk.2) (.int .i64 t439)) (fun _ hk => hk.2) (.int .i64 t440)) (fun _ hk => hk.2) (.slice Ao113 t441.length co113)) (fun _ hk => ⟨hk.1.1.1.1.1.2, hk.1.2⟩)⟩, ⟨by (with_reducible repeat (first | apply Kd.R_alloc | apply Kd.R_drewN | apply Kd.R_drew)); exact Kd.R_mono (Kd.R_far (p := ⟨gb445, 2, none⟩) (Kd.R_far (p := ⟨gb445, 1, none⟩) (Kd.R_far (p := ⟨gb445, 0, none⟩) (Kd.R_types HO443.out BK445.out (by decide)) (fun _ hk => hk.2) (.int .i64 t439)) (fun _ hk => hk.2) (.int .i64 t440)) (fun _ hk => hk.2) (.slice Ao113 t441.length co113)) (fun _ hk => ⟨hk.1.1.1.1.1.2, hk.1.1.1.1.2⟩)⟩, ⟨bko gb332 (by rfl)⟩, ⟨bko gb336 (by rfl)⟩, ⟨bko gb340 (by rfl)⟩, ⟨bko gb347 (by rfl)⟩, ⟨bko gb351 (by rfl)⟩, ⟨bko gb385 (by rfl)⟩, ⟨bko gb405 (by rfl)⟩, ⟨bko gb425 (by rfl)⟩, ⟨bko gb445 (by rfl)⟩, inferInstance⟩
        ·
         rw [if_neg c120] at H
         have c120b0 : (t404 == 0) = false := beq_eq_false_iff_ne.mpr c120
         have c120b1 : (t404 != 0) = true := bne_iff_ne.mpr c120
         have H' := Aside0.mk H
         clear H
         go_wp2
         go_meet
         case rel => exact ⟨_, (true), (by first | rfl | (simp; done) | (simp [*]; done)), H', ⟨by first | omega | exact Nat.le_refl _⟩, ⟨by (with_reducible repeat (first | apply Kd.R_alloc | apply Kd.R_drewN | apply Kd.R_drew)); exact Kd.R_mono (Kd.R_far (p := ⟨gb445, 2, none⟩) (Kd.R_far (p := ⟨gb445, 1, none⟩) (Kd.R_far (p := ⟨gb445, 0, none⟩) (Kd.R_types HO363.out BK445.out (by decide)) (fun _ hk => hk.2) (.int .i64 t439)) (fun _ hk => hk.2) (.int .i64 t440)) (fun _ hk => hk.2) (.slice Ao113 t441.length co113)) (fun _ hk => trivial)⟩, ⟨by (with_reducible repeat (first | apply Kd.R_alloc | apply Kd.R_drewN | apply Kd.R_drew)); exact Kd.R_mono (Kd.R_far (p := ⟨gb445, 2, none⟩) (Kd.R_far (p := ⟨gb445, 1, none⟩) (Kd.R_far (p := ⟨gb445, 0, none⟩) (Kd.R_types HO331.out BK445.out (by decide)) (fun _ hk => hk.2) (.int .i64 t439)) (fun _ hk => hk.2) (.int .i64 t440)) (fun _ hk => hk.2) (.slice Ao113 t441.length co113)) (fun _ hk => ⟨hk.1.1.1.1.1.2, hk.1.2⟩)⟩, ⟨by (with_reducible repeat (first | apply Kd.R_alloc | apply Kd.R_drewN | apply Kd.R_drew)); exact Kd.R_mono (Kd.R_far (p := ⟨gb445, 2, none⟩) (Kd.R_far (p := ⟨gb445, 1, none⟩) (Kd.R_far (p := ⟨gb445, 0, none⟩) (Kd.R_types HO345.out BK445.out (by decide)) (fun _ hk => hk.2) (.int .i64 t439)) (fun _ hk => hk.2) (.int .i64 t440)) (fun _ hk => hk.2) (.slice Ao113 t441.length co113)) (fun _ hk => ⟨hk.1.1.1.1.1.2, hk.1.2⟩)⟩, ⟨by (with_reducible repeat (first | apply Kd.R_alloc | apply Kd.R_drewN | apply Kd.R_drew)); exact Kd.R_mono (Kd.R_far (p := ⟨gb445, 2, none⟩) (Kd.R_far (p := ⟨gb445, 1, none⟩) (Kd.R_far (p := ⟨gb445, 0, none⟩) (Kd.R_types HO443.out BK445.out (by decide)) (fun _ hk => hk.2) (.int .i64 t439)) (fun _ hk => hk.2) (.int .i64 t440)) (fun _ hk => hk.2) (.slice Ao113 t441.length co113)) (fun _ hk => ⟨hk.1.1.1.1.1.2, hk.1.1.1.1.2⟩)⟩, ⟨bko gb332 (by rfl)⟩, ⟨bko gb336 (by rfl)⟩, ⟨bko gb340 (by rfl)⟩, ⟨bko gb347 (by rfl)⟩, ⟨bko gb351 (by rfl)⟩, ⟨bko gb385 (by rfl)⟩, ⟨bko gb405 (by rfl)⟩, ⟨bko gb425 (by rfl)⟩, ⟨bko gb445 (by rfl)⟩, inferInstance⟩
       ·
        rw [if_neg c119] at H
        have c119b0 : (t384 == 0) = false := beq_eq_false_iff_ne.mpr c119
        have c119b1 : (t384 != 0) = true := bne_iff_ne.mpr c119
        have H' := Aside0.mk H
        clear H
        go_wp2
        go_meet
        case rel => exact ⟨_, (true), (by first | rfl | (simp; done) | (simp [*]; done)), H', ⟨by first | omega | exact Nat.le_refl _⟩, ⟨by (with_reducible repeat (first | apply Kd.R_alloc | apply Kd.R_drewN | apply Kd.R_drew)); exact Kd.R_mono (Kd.R_far (p := ⟨gb445, 2, none⟩) (Kd.R_far (p := ⟨gb445, 1, none⟩) (Kd.R_far (p := ⟨gb445, 0, none⟩) (Kd.R_types HO363.out BK445.out (by decide)) (fun _ hk => hk.2) (.int .i64 t439)) (fun _ hk => hk.2) (.int .i64 t440)) (fun _ hk => hk.2) (.slice Ao113 t441.length co113)) (fun _ hk => trivial)⟩, ⟨by (with_reducible repeat (first | apply Kd.R_alloc | apply Kd.R_drewN | apply Kd.R_drew)); exact Kd.R_mono (Kd.R_far (p := ⟨gb445, 2, none⟩) (Kd.R_far (p := ⟨gb445, 1, none⟩) (Kd.R_far (p := ⟨gb445, 0, none⟩) (Kd.R_types HO331.out BK445.out (by decide)) (fun _ hk => hk.2) (.int .i64 t439)) (fun _ hk => hk.2) (.int .i64 t440)) (fun _ hk => hk.2) (.slice Ao113 t441.length co113)) (fun _ hk => ⟨hk.1.1.1.1.1.2, hk.1.2⟩)⟩, ⟨by (with_reducible repeat (first | apply Kd.R_alloc | apply Kd.R_drewN | apply Kd.R_drew)); exact Kd.R_mono (Kd.R_far (p := ⟨gb445, 2, none⟩) (Kd.R_far (p := ⟨gb445, 1, none⟩) (Kd.R_far (p := ⟨gb445, 0, none⟩) (Kd.R_types HO345.out BK445.out (by decide)) (fun _ hk => hk.2) (.int .i64 t439)) (fun _ hk => hk.2) (.int .i64 t440)) (fun _ hk => hk.2) (.slice Ao113 t441.length co113)) (fun _ hk => ⟨hk.1.1.1.1.1.2, hk.1.2⟩)⟩, ⟨by (with_reducible repeat (first | apply Kd.R_alloc | apply Kd.R_drewN | apply Kd.R_drew)); exact Kd.R_mono (Kd.R_far (p := ⟨gb445, 2, none⟩) (Kd.R_far (p := ⟨gb445, 1, none⟩) (Kd.R_far (p := ⟨gb445, 0, none⟩) (Kd.R_types HO443.out BK445.out (by decide)) (fun _ hk => hk.2) (.int .i64 t439)) (fun _ hk => hk.2) (.int .i64 t440)) (fun _ hk => hk.2) (.slice Ao113 t441.length co113)) (fun _ hk => ⟨hk.1.1.1.1.1.2, hk.1.1.1.1.2⟩)⟩, ⟨bko gb332 (by rfl)⟩, ⟨bko gb336 (by rfl)⟩, ⟨bko gb340 (by rfl)⟩, ⟨bko gb347 (by rfl)⟩, ⟨bko gb351 (by rfl)⟩, ⟨bko gb385 (by rfl)⟩, ⟨bko gb405 (by rfl)⟩, ⟨bko gb425 (by rfl)⟩, ⟨bko gb445 (by rfl)⟩, inferInstance⟩
      ·
       rw [if_neg c118] at H
       have c118b0 : (t365 == 0) = false := beq_eq_false_iff_ne.mpr c118
       have c118b1 : (t365 != 0) = true := bne_iff_ne.mpr c118
       have H' := Aside0.mk H
       clear H
       go_wp2
       go_meet
       case rel => exact ⟨_, (true), (by first | rfl | (simp; done) | (simp [*]; done)), H', ⟨by first | omega | exact Nat.le_refl _⟩, ⟨by (with_reducible repeat (first | apply Kd.R_alloc | apply Kd.R_drewN | apply Kd.R_drew)); exact Kd.R_mono (Kd.R_far (p := ⟨gb445, 2, none⟩) (Kd.R_far (p := ⟨gb445, 1, none⟩) (Kd.R_far (p := ⟨gb445, 0, none⟩) (Kd.R_types HO363.out BK445.out (by decide)) (fun _ hk => hk.2) (.int .i64 t439)) (fun _ hk => hk.2) (.int .i64 t440)) (fun _ hk => hk.2) (.slice Ao113 t441.length co113)) (fun _ hk => trivial)⟩, ⟨by (with_reducible repeat (first | apply Kd.R_alloc | apply Kd.R_drewN | apply Kd.R_drew)); exact Kd.R_mono (Kd.R_far (p := ⟨gb445, 2, none⟩) (Kd.R_far (p := ⟨gb445, 1, none⟩) (Kd.R_far (p := ⟨gb445, 0, none⟩) (Kd.R_types HO331.out BK445.out (by decide)) (fun _ hk => hk.2) (.int .i64 t439)) (fun _ hk => hk.2) (.int .i64 t440)) (fun _ hk => hk.2) (.slice Ao113 t441.length co113)) (fun _ hk => ⟨hk.1.1.1.1.1.2, hk.1.2⟩)⟩, ⟨by (with_reducible repeat (first | apply Kd.R_alloc | apply Kd.R_drewN | apply Kd.R_drew)); exact Kd.R_mono (Kd.R_far (p := ⟨gb445, 2, none⟩) (Kd.R_far (p := ⟨gb445, 1, none⟩) (Kd.R_far (p := ⟨gb445, 0, none⟩) (Kd.R_types HO345.out BK445.out (by decide)) (fun _ hk => hk.2) (.int .i64 t439)) (fun _ hk => hk.2) (.int .i64 t440)) (fun _ hk => hk.2) (.slice Ao113 t441.length co113)) (fun _ hk => ⟨hk.1.1.1.1.1.2, hk.1.2⟩)⟩, ⟨by (with_reducible repeat (first | apply Kd.R_alloc | apply Kd.R_drewN | apply Kd.R_drew)); exact Kd.R_mono (Kd.R_far (p := ⟨gb445, 2, none⟩) (Kd.R_far (p := ⟨gb445, 1, none⟩) (Kd.R_far (p := ⟨gb445, 0, none⟩) (Kd.R_types HO443.out BK445.out (by decide)) (fun _ hk => hk.2) (.int .i64 t439)) (fun _ hk => hk.2) (.int .i64 t440)) (fun _ hk => hk.2) (.slice Ao113 t441.length co113)) (fun _ hk => ⟨hk.1.1.1.1.1.2, hk.1.1.1.1.2⟩)⟩, ⟨bko gb332 (by rfl)⟩, ⟨bko gb336 (by rfl)⟩, ⟨bko gb340 (by rfl)⟩, ⟨bko gb347 (by rfl)⟩, ⟨bko gb351 (by rfl)⟩, ⟨bko gb385 (by rfl)⟩, ⟨bko gb405 (by rfl)⟩, ⟨bko gb425 (by rfl)⟩, ⟨bko gb445 (by rfl)⟩, inferInstance⟩
     ·
      rw [if_neg c117] at H
      have c117b0 : (t350 == 0) = false := beq_eq_false_iff_ne.mpr c117
      have c117b1 : (t350 != 0) = true := bne_iff_ne.mpr c117
      have H' := Aside0.mk H
      clear H
      go_wp2
      go_meet
      case rel => exact ⟨_, (true), (by first | rfl | (simp; done) | (simp [*]; done)), H', ⟨by first | omega | exact Nat.le_refl _⟩, ⟨by (with_reducible repeat (first | apply Kd.R_alloc | apply Kd.R_drewN | apply Kd.R_drew)); exact Kd.R_mono (Kd.R_far (p := ⟨gb445, 2, none⟩) (Kd.R_far (p := ⟨gb445, 1, none⟩) (Kd.R_far (p := ⟨gb445, 0, none⟩) (Kd.R_types HO363.out BK445.out (by decide)) (fun _ hk => hk.2) (.int .i64 t439)) (fun _ hk => hk.2) (.int .i64 t440)) (fun _ hk => hk.2) (.slice Ao113 t441.length co113)) (fun _ hk => trivial)⟩, ⟨by (with_reducible repeat (first | apply Kd.R_alloc | apply Kd.R_drewN | apply Kd.R_drew)); exact Kd.R_mono (Kd.R_far (p := ⟨gb445, 2, none⟩) (Kd.R_far (p := ⟨gb445, 1, none⟩) (Kd.R_far (p := ⟨gb445, 0, none⟩) (Kd.R_types HO331.out BK445.out (by decide)) (fun _ hk => hk.2) (.int .i64 t439)) (fun _ hk => hk.2) (.int .i64 t440)) (fun _ hk => hk.2) (.slice Ao113 t441.length co113)) (fun _ hk => ⟨hk.1.1.1.1.1.2, hk.1.2⟩)⟩, ⟨by (with_reducible repeat (first | apply Kd.R_alloc | apply Kd.R_drewN | apply Kd.R_drew)); exact Kd.R_mono (Kd.R_far (p := ⟨gb445, 2, none⟩) (Kd.R_far (p := ⟨gb445, 1, none⟩) (Kd.R_far (p := ⟨gb445, 0, none⟩) (Kd.R_types HO345.out BK445.out (by decide)) (fun _ hk => hk.2) (.int .i64 t439)) (fun _ hk => hk.2) (.int .i64 t440)) (fun _ hk => hk.2) (.slice Ao113 t441.length co113)) (fun _ hk => ⟨hk.1.1.1.1.1.2, hk.1.2⟩)⟩, ⟨by (with_reducible repeat (first | apply Kd.R_alloc | apply Kd.R_drewN | apply Kd.R_drew)); exact Kd.R_mono (Kd.R_far (p := ⟨gb445, 2, none⟩) (Kd.R_far (p := ⟨gb445, 1, none⟩) (Kd.R_far (p := ⟨gb445, 0, none⟩) (Kd.R_types HO443.out BK445.out (by decide)) (fun _ hk => hk.2) (.int .i64 t439)) (fun _ hk => hk.2) (.int .i64 t440)) (fun _ hk => hk.2) (.slice Ao113 t441.length co113)) (fun _ hk => ⟨hk.1.1.1.1.1.2, hk.1.1.1.1.2⟩)⟩, ⟨bko gb332 (by rfl)⟩, ⟨bko gb336 (by rfl)⟩, ⟨bko gb340 (by rfl)⟩, ⟨bko gb347 (by rfl)⟩, ⟨bko gb351 (by rfl)⟩, ⟨bko gb385 (by rfl)⟩, ⟨bko gb405 (by rfl)⟩, ⟨bko gb425 (by rfl)⟩, ⟨bko gb445 (by rfl)⟩, inferInstance⟩
    ·
     rw [if_neg c116] at H
     have c116b0 : (t346 == 0) = false := beq_eq_false_iff_ne.mpr c116
     have c116b1 : (t346 != 0) = true := bne_iff_ne.mpr c116
     have H' := Aside0.mk H
     clear H
     go_wp2
     go_meet
     case rel => exact ⟨_, (true), (by first | rfl | (simp; done) | (simp [*]; done)), H', ⟨by first | omega | exact Nat.le_refl _⟩, ⟨by (with_reducible repeat (first | apply Kd.R_alloc | apply Kd.R_drewN | apply Kd.R_drew)); exact Kd.R_mono (Kd.R_far (p := ⟨gb445, 2, none⟩) (Kd.R_far (p := ⟨gb445, 1, none⟩) (Kd.R_far (p := ⟨gb445, 0, none⟩) (Kd.R_types HO363.out BK445.out (by decide)) (fun _ hk => hk.2) (.int .i64 t439)) (fun _ hk => hk.2) (.int .i64 t440)) (fun _ hk => hk.2) (.slice Ao113 t441.length co113)) (fun _ hk => trivial)⟩, ⟨by (with_reducible repeat (first | apply Kd.R_alloc | apply Kd.R_drewN | apply Kd.R_drew)); exact Kd.R_mono (Kd.R_far (p := ⟨gb445, 2, none⟩) (Kd.R_far (p := ⟨gb445, 1, none⟩) (Kd.R_far (p := ⟨gb445, 0, none⟩) (Kd.R_types HO331.out BK445.out (by decide)) (fun _ hk => hk.2) (.int .i64 t439)) (fun _ hk => hk.2) (.int .i64 t440)) (fun _ hk => hk.2) (.slice Ao113 t441.length co113)) (fun _ hk => ⟨hk.1.1.1.1.1.2, hk.1.2⟩)⟩, ⟨by (with_reducible repeat (first | apply Kd.R_alloc | apply Kd.R_drewN | apply Kd.R_drew)); exact Kd.R_mono (Kd.R_far (p := ⟨gb445, 2, none⟩) (Kd.R_far (p := ⟨gb445, 1, none⟩) (Kd.R_far (p := ⟨gb445, 0, none⟩) (Kd.R_types HO345.out BK445.out (by decide)) (fun _ hk => hk.2) (.int .i64 t439)) (fun _ hk => hk.2) (.int .i64 t440)) (fun _ hk => hk.2) (.slice Ao113 t441.length co113)) (fun _ hk => ⟨hk.1.1.1.1.1.2, hk.1.2⟩)⟩, ⟨by (with_reducible repeat (first | apply Kd.R_alloc | apply Kd.R_drewN | apply Kd.R_drew)); exact Kd.R_mono (Kd.R_far (p := ⟨gb445, 2, none⟩) (Kd.R_far (p := ⟨gb445, 1, none⟩) (Kd.R_far (p := ⟨gb445, 0, none⟩) (Kd.R_types HO443.out BK445.out (by decide)) (fun _ hk => hk.2) (.int .i64 t439)) (fun _ hk => hk.2) (.int .i64 t440)) (fun _ hk => hk.2) (.slice Ao113 t441.length co113)) (fun _ hk => ⟨hk.1.1.1.1.1.2, hk.1.1.1.1.2⟩)⟩, ⟨bko gb332 (by rfl)⟩, ⟨bko gb336 (by rfl)⟩, ⟨bko gb340 (by rfl)⟩, ⟨bko gb347 (by rfl)⟩, ⟨bko gb351 (by rfl)⟩, ⟨bko gb385 (by rfl)⟩, ⟨bko gb405 (by rfl)⟩, ⟨bko gb425 (by rfl)⟩, ⟨bko gb445 (by rfl)⟩, inferInstance⟩
   ·
    rw [if_neg c115] at H
    have c115b0 : (t339 == 0) = false := beq_eq_false_iff_ne.mpr c115
    have c115b1 : (t339 != 0) = true := bne_iff_ne.mpr c115
    have H' := Aside0.mk H
    clear H
    go_wp2
    go_meet
    case rel => exact ⟨_, (true), (by first | rfl | (simp; done) | (simp [*]; done)), H', ⟨by first | omega | exact Nat.le_refl _⟩, ⟨by (with_reducible repeat (first | apply Kd.R_alloc | apply Kd.R_drewN | apply Kd.R_drew)); exact Kd.R_mono (Kd.R_far (p := ⟨gb445, 2, none⟩) (Kd.R_far (p := ⟨gb445, 1, none⟩) (Kd.R_far (p := ⟨gb445, 0, none⟩) (Kd.R_types HO363.out BK445.out (by decide)) (fun _ hk => hk.2) (.int .i64 t439)) (fun _ hk => hk.2) (.int .i64 t440)) (fun _ hk => hk.2) (.slice Ao113 t441.length co113)) (fun _ hk => trivial)⟩, ⟨by (with_reducible repeat (first | apply Kd.R_alloc | apply Kd.R_drewN | apply Kd.R_drew)); exact Kd.R_mono (Kd.R_far (p := ⟨gb445, 2, none⟩) (Kd.R_far (p := ⟨gb445, 1, none⟩) (Kd.R_far (p := ⟨gb445, 0, none⟩) (Kd.R_types HO331.out BK445.out (by decide)) (fun _ hk => hk.2) (.int .i64 t439)) (fun _ hk => hk.2) (.int .i64 t440)) (fun _ hk => hk.2) (.slice Ao113 t441.length co113)) (fun _ hk => ⟨hk.1.1.1.1.1.2, hk.1.2⟩)⟩, ⟨by (with_reducible repeat (first | apply Kd.R_alloc | apply Kd.R_drewN | apply Kd.R_drew)); exact Kd.R_mono (Kd.R_far (p := ⟨gb445, 2, none⟩) (Kd.R_far (p := ⟨gb445, 1, none⟩) (Kd.R_far (p := ⟨gb445, 0, none⟩) (Kd.R_types HO345.out BK445.out (by decide)) (fun _ hk => hk.2) (.int .i64 t439)) (fun _ hk => hk.2) (.int .i64 t440)) (fun _ hk => hk.2) (.slice Ao113 t441.length co113)) (fun _ hk => ⟨hk.1.1.1.1.1.2, hk.1.2⟩)⟩, ⟨by (with_reducible repeat (first | apply Kd.R_alloc | apply Kd.R_drewN | apply Kd.R_drew)); exact Kd.R_mono (Kd.R_far (p := ⟨gb445, 2, none⟩) (Kd.R_far (p := ⟨gb445, 1, none⟩) (Kd.R_far (p := ⟨gb445, 0, none⟩) (Kd.R_types HO443.out BK445.out (by decide)) (fun _ hk => hk.2) (.int .i64 t439)) (fun _ hk => hk.2) (.int .i64 t440)) (fun _ hk => hk.2) (.slice Ao113 t441.length co113)) (fun _ hk => ⟨hk.1.1.1.1.1.2, hk.1.1.1.1.2⟩)⟩, ⟨bko gb332 (by rfl)⟩, ⟨bko gb336 (by rfl)⟩, ⟨bko gb340 (by rfl)⟩, ⟨bko gb347 (by rfl)⟩, ⟨bko gb351 (by rfl)⟩, ⟨bko gb385 (by rfl)⟩, ⟨bko gb405 (by rfl)⟩, ⟨bko gb425 (by rfl)⟩, ⟨bko gb445 (by rfl)⟩, inferInstance⟩
  ·
   rw [if_neg c114] at H
   have c114b0 : (t335 == 0) = false := beq_eq_false_iff_ne.mpr c114
   have c114b1 : (t335 != 0) = true := bne_iff_ne.mpr c114
   (first | rw [c114b0] | (simp only [i64_w]; rw [c114b0]) | skip)
   have H' := Aside0.mk H
   clear H
   go_wp2
   go_meet
   case rel => exact ⟨_, (true), (by first | rfl | (simp; done) | (simp [*]; done)), H', ⟨by first | omega | exact Nat.le_refl _⟩, ⟨by (with_reducible repeat (first | apply Kd.R_alloc | apply Kd.R_drewN | apply Kd.R_drew)); exact Kd.R_mono (Kd.R_far (p := ⟨gb445, 2, none⟩) (Kd.R_far (p := ⟨gb445, 1, none⟩) (Kd.R_far (p := ⟨gb445, 0, none⟩) (Kd.R_types HO363.out BK445.out (by decide)) (fun _ hk => hk.2) (.int .i64 t439)) (fun _ hk => hk.2) (.int .i64 t440)) (fun _ hk => hk.2) (.slice Ao113 t441.length co113)) (fun _ hk => trivial)⟩, ⟨by (with_reducible repeat (first | apply Kd.R_alloc | apply Kd.R_drewN | apply Kd.R_drew)); exact Kd.R_mono (Kd.R_far (p := ⟨gb445, 2, none⟩) (Kd.R_far (p := ⟨gb445, 1, none⟩) (Kd.R_far (p := ⟨gb445, 0, none⟩) (Kd.R_types HO331.out BK445.out (by decide)) (fun _ hk => hk.2) (.int .i64 t439)) (fun _ hk => hk.2) (.int .i64 t440)) (fun _ hk => hk.2) (.slice Ao113 t441.length co113)) (fun _ hk => ⟨hk.1.1.1.1.1.2, hk.1.2⟩)⟩, ⟨by (with_reducible repeat (first | apply Kd.R_alloc | apply Kd.R_drewN | apply Kd.R_drew)); exact Kd.R_mono (Kd.R_far (p := ⟨gb445, 2, none⟩) (Kd.R_far (p := ⟨gb445, 1, none⟩) (Kd.R_far (p := ⟨gb445, 0, none⟩) (Kd.R_types HO345.out BK445.out (by decide)) (fun _ hk => hk.2) (.int .i64 t439)) (fun _ hk => hk.2) (.int .i64 t440)) (fun _ hk => hk.2) (.slice Ao113 t441.length co113)) (fun _ hk => ⟨hk.1.1.1.1.1.2, hk.1.2⟩)⟩, ⟨by (with_reducible repeat (first | apply Kd.R_alloc | apply Kd.R_drewN | apply Kd.R_drew)); exact Kd.R_mono (Kd.R_far (p := ⟨gb445, 2, none⟩) (Kd.R_far (p := ⟨gb445, 1, none⟩) (Kd.R_far (p := ⟨gb445, 0, none⟩) (Kd.R_types HO443.out BK445.out (by decide)) (fun _ hk => hk.2) (.int .i64 t439)) (fun _ hk => hk.2) (.int .i64 t440)) (fun _ hk => hk.2) (.slice Ao113 t441.length co113)) (fun _ hk => ⟨hk.1.1.1.1.1.2, hk.1.1.1.1.2⟩)⟩, ⟨bko gb332 (by rfl)⟩, ⟨bko gb336 (by rfl)⟩, ⟨bko gb340 (by rfl)⟩, ⟨bko gb347 (by rfl)⟩, ⟨bko gb351 (by rfl)⟩, ⟨bko gb385 (by rfl)⟩, ⟨bko gb405 (by rfl)⟩, ⟨bko gb425 (by rfl)⟩, ⟨bko gb445 (by rfl)⟩, inferInstance⟩
 case rest =>
  clear HC18
  try clear c1
  try clear c2
  try clear p2
  try clear c3
  try clear c4
  try clear c6
  try clear c7
  try clear c8
  try clear c9
  try clear c10
  try clear c11
  try clear c12
  try clear c13
  try clear c16
  try clear c23
  try clear c25
  try clear c26
  try clear c27
  try clear c29
  try clear c31
  try clear c32
  try clear c35
  try clear c37
  try clear c38
  try clear c39
  try clear c44
  try clear c45
  try clear c46
  try clear c47
  try clear c65
  try clear c66
  try clear c67
  try clear c68
  try clear c69
  try clear c77
  try clear c78
  try clear c79
  try clear c80
  try clear c81
  try clear c82
  try clear c90
  try clear c91
  try clear c92
  try clear c93
  try clear c94
  try clear c95
  try clear c96
  try clear c104
  try clear c105
  try clear c106
  try clear c107
  try clear c108
  try clear c109
  try clear c110
  try clear c111
  try clear c114
  try clear c114b0
  try clear c114b1
  try clear c115
  try clear c115b0
  try clear c115b1
  try clear c116
  try clear c116b0
  try clear c116b1
  try clear c117
  try clear c117b0
  try clear c117b1
  try clear c118
  try clear c118b0
  try clear c118b1
  try clear c119
  try clear c119b0
  try clear c119b1
  try clear c120
  try clear c120b0
  try clear c120b1
  try clear c121
  try clear c121b0
  try clear c121b1
  try clear c122
  try clear c122b0
  try clear c122b1
  obtain ⟨kq, x122_17, rfl, HA, HJ17, HO_10, HO_333002, HO_348002, HO_446002, BK332, BK336, BK340, BK347, BK351, BK385, BK405, BK425, BK445, HB⟩ := hcut
  cases kq with
  | zero => exact absurd HA.out (by simp [snowlinelaw01_sane.j0])
  | succ kj17 =>
   have H := HA.out
   clear HA
   simp only [snowlinelaw01_sane.j0] at H
   by_cases c123 : x122_17 = true
   ·
    subst c123
    rw [if_pos rfl] at H
    exact absurd H (by simp)
   ·
    replace c123 := Bool.eq_false_iff.mpr c123
    subst c123
    rw [if_neg (show ¬ (false = true) by decide)] at H
    by_cases c124 : (!(t333 == (-6)) || (!(t334 == 7))) = true
    ·
     rw [if_pos c124] at H
     have c124b0 : (!(t333 == (-6)) || (!(t334 == 7))) = true := c124
     clear c124
     exact absurd H (by simp)
    ·
     rw [if_neg c124] at H
     have c124b0 : (!(t333 == (-6)) || (!(t334 == 7))) = false := by simpa using c124
     clear c124
     by_cases c125 : (!(t337 == (-12)) || (!(t338 == 12))) = true
     ·
      rw [if_pos c125] at H
      have c125b0 : (!(t337 == (-12)) || (!(t338 == 12))) = true := c125
      clear c125
      exact absurd H (by simp)
     ·
      rw [if_neg c125] at H
      have c125b0 : (!(t337 == (-12)) || (!(t338 == 12))) = false := by simpa using c125
      clear c125
      by_cases c126 : (!(t348 == 2) || (!(t349 == 3))) = true
      ·
       rw [if_pos c126] at H
       have c126b0 : (!(t348 == 2) || (!(t349 == 3))) = true := c126
       clear c126
       exact absurd H (by simp)
      ·
       rw [if_neg c126] at H
       have c126b0 : (!(t348 == 2) || (!(t349 == 3))) = false := by simpa using c126
       clear c126
       by_cases c127 : t364 = true
       ·
        subst c127
        rw [if_pos rfl] at H
        obtain ⟨y446, hy446⟩ : ∃ y_ : List Int, y_ = (([2, 0, 6] : List Int)) := ⟨_, rfl⟩
        replace H : ((slices_Equal_int_int.f kj17 t361 y446).bind fun t449 => (if t449 = true then (if (t382 == 1050 && (t383 == 1055)) = true then (if (t402 == 107 && (t403 == 146)) = true then (if (t422 == 356 && (t423 == 485)) = true then (some (t437.toList == ([115, 104, 101, 101, 116, 32, 49, 32, 50, 32, 49, 48, 32, 49, 49, 32, 48, 32, 49, 48, 32, 49, 48, 48, 32, 49, 48, 32, 51, 48, 48, 47, 50, 48, 48, 47, 49, 49, 53, 53, 47, 52, 48, 47, 53] : List UInt8))) else (some false)) else (some false)) else (some false)) else (some false))) = some true := by first | (rw [hy446]; with_reducible exact H) | (have H2_ := (Option.bind_some _ _).symm.trans H; rw [hy446]; with_reducible exact H2_) | (have H2_ := (Option.bind_some _ _).symm.trans H; with_reducible exact H2_) | with_reducible exact H | (rw [hy446]; exact H) | exact H
        have Ny446 := Aside0.mk (hy446)
        clear hy446
        replace H := Option.bind_eq_some_iff.mp H
        obtain ⟨t449, A1280, H⟩ := H
        have A128 := Aside0.mk (A1280)
        clear A1280
        by_cases c129 : t449 = true
        ·
         subst c129
         rw [if_pos rfl] at H
         by_cases c130 : (t382 == 1050 && (t383 == 1055)) = true
         ·
          rw [if_pos c130] at H
          have c130b0 : (t382 == 1050 && (t383 == 1055)) = true := c130
          (try (have c130b1 : decide (t382 = 1050 && (t383 == 1055)) = true := by simpa using c130))
          (try (have c130b2 : (t382 == 1050 && (t383 == 1055)) = true := by simpa using c130))
          clear c130
          by_cases c131 : (t402 == 107 && (t403 == 146)) = true
          ·
           rw [if_pos c131] at H
           have c131b0 : (t402 == 107 && (t403 == 146)) = true := c131
           (try (have c131b1 : decide (t402 = 107 && (t403 == 146)) = true := by simpa using c131))
           (try (have c131b2 : (t402 == 107 && (t403 == 146)) = true := by simpa using c131))
           clear c131
           by_cases c132 : (t422 == 356 && (t423 == 485)) = true
           ·
            rw [if_pos c132] at H
            have c132b0 : (t422 == 356 && (t423 == 485)) = true := c132
            (try (have c132b1 : decide (t422 = 356 && (t423 == 485)) = true := by simpa using c132))
            (try (have c132b2 : (t422 == 356 && (t423 == 485)) = true := by simpa using c132))
            clear c132
            have H2_ := Option.some.inj H
            clear H
            obtain ⟨hnc133, hnb133⟩ := nn NB332_336
            obtain ⟨hnb134, hnc134⟩ := nn NB336_340
            obtain ⟨hnb135, hnc135⟩ := nn NB336_347
            obtain ⟨hnb136, hnc136⟩ := nn NB336_351
            obtain ⟨hnb137, hnc137⟩ := nn NB336_385
            obtain ⟨hnb138, hnc138⟩ := nn NB336_405
            obtain ⟨hnb139, hnc139⟩ := nn NB336_425
            obtain ⟨hnb140, hnc140⟩ := nn NB336_445
            obtain ⟨hcz141_0, hcz141_1, hfz141_0, hfz141_1⟩ := cz2 BK336
            obtain ⟨hnc142, hnb142⟩ := nn NB332_340
            obtain ⟨hnb143, hnc143⟩ := nn NB340_347
            obtain ⟨hnb144, hnc144⟩ := nn NB340_351
            obtain ⟨hnb145, hnc145⟩ := nn NB340_385
            obtain ⟨hnb146, hnc146⟩ := nn NB340_405
            obtain ⟨hnb147, hnc147⟩ := nn NB340_425
            obtain ⟨hnb148, hnc148⟩ := nn NB340_445
            obtain ⟨hcz149_0, hcz149_1, hfz149_0, hfz149_1⟩ := cz2 BK340
            obtain ⟨hnc150, hnb150⟩ := nn NB332_351
            obtain ⟨hnc151, hnb151⟩ := nn NB347_351
            obtain ⟨hnb152, hnc152⟩ := nn NB351_385
            obtain ⟨hnb153, hnc153⟩ := nn NB351_405
            obtain ⟨hnb154, hnc154⟩ := nn NB351_425
            obtain ⟨hnb155, hnc155⟩ := nn NB351_445
            obtain ⟨hcz156_0, hcz156_1, hfz156_0, hfz156_1⟩ := cz2 BK351
            go_wp2_with (first | ((with_reducible refine gate_dst (N := 142) rfl ?_); (try (refine gate_guard (by rfl) ?_; dsimp only)); refine Kd.R_lit (Kd.int .i64) _ 3 ?hg (N := 142) ?hd (xs := ([2, 0, 6] : List Int)) (inner := [.int .i64 2, .int .i64 0, .int .i64 6]) (ok := fun _ => True) (okp := fun _ => True) ?hr ?hp (fun _ hk => hk) trivial (Below.refl _ _) (Nat.le_refl _) (by simp) ?_; (case hd => rfl); (case hg => rfl); (case hr => first | (go_simp; done) | (go_simp; rfl)); (case hp => exact (Reps.one (show Kd.M (Kd.int .i64) _ _ _ 2 [.int .i64 2] from rfl) (Reps.one (show Kd.M (Kd.int .i64) _ _ _ 0 [.int .i64 0] from rfl) (Reps.one (show Kd.M (Kd.int .i64) _ _ _ 6 [.int .i64 6] from rfl) (Reps.none _ _))))); intro v447 w157 ho158 hb hg_ hnew_; clear hg_ hnew_; (first | rw [← Ny446.out] at ho158 | (simp only [Int.reduceToNat] at ho158; rw [← Ny446.out] at ho158)); have n0_ := Aside0.mk (Kd.R_elder' (by (with_reducible repeat (first | apply Kd.R_alloc | apply Kd.R_drewN | apply Kd.R_drew)); exact HO_10.out) (Kd.R_base ho158) hb); have n4_ := Aside0.mk (Kd.R_lower (Kd.R_new' ho158 (Kd.R_lt (by (with_reducible repeat (first | apply Kd.R_alloc | apply Kd.R_drewN | apply Kd.R_drew)); exact HO_10.out))) (bz w)); replace HO_333002 := rB HO_333002 hb; replace HO_348002 := rB HO_348002 hb; replace HO_446002 := rB HO_446002 hb; replace BK332 := kB gb332 hb; replace BK336 := kB gb336 hb; replace BK340 := kB gb340 hb; replace BK347 := kB gb347 hb; replace BK351 := kB gb351 hb; replace BK385 := kB gb385 hb; replace BK405 := kB gb405 hb; replace BK425 := kB gb425 hb; replace BK445 := kB gb445 hb; replace HB := bS w hb; clear HO_10; have HO_10 := n0_; have HO448 := n4_; clear n0_ n4_ hb ho158; obtain ⟨Ao159, co159, eo159⟩ := Kd.R_slice HO_10.out; subst eo159; obtain ⟨Ao160, co160, eo160⟩ := Kd.R_slice HO448.out; subst eo160) | (go_at_call 37; (with_reducible refine (slices_Equal_int_int.calls kj17 _ _ t361 _ _ y446 true _ ?side1 ?side2 ?side3 ?side4 A128.out).mono ?_); (case side1 => exact cP (Kd.R_reads' HO_10.out).2.2); (case side2 => exact (Kd.R_reads' HO_10.out).2.1); (case side3 => exact cP (Kd.R_reads' HO448.out).2.2); (case side4 => exact (Kd.R_reads' HO448.out).2.1); rintro e w' ⟨rfl, ⟨nd, rfl⟩⟩; obtain ⟨hnc161, hnb161⟩ := nn NB332_385; obtain ⟨hnc162, hnb162⟩ := nn NB347_385; obtain ⟨hnb163, hnc163⟩ := nn NB385_405; obtain ⟨hnb164, hnc164⟩ := nn NB385_425; obtain ⟨hnb165, hnc165⟩ := nn NB385_445; obtain ⟨hcz166_0, hcz166_1, hfz166_0, hfz166_1⟩ := cz2 BK385; obtain ⟨hnc167, hnb167⟩ := nn NB332_405; obtain ⟨hnc168, hnb168⟩ := nn NB347_405; obtain ⟨hnb169, hnc169⟩ := nn NB405_425; obtain ⟨hnb170, hnc170⟩ := nn NB405_445; obtain ⟨hcz171_0, hcz171_1, hfz171_0, hfz171_1⟩ := cz2 BK405; obtain ⟨hnc172, hnb172⟩ := nn NB332_425; obtain ⟨hnc173, hnb173⟩ := nn NB347_425; obtain ⟨hnb174, hnc174⟩ := nn NB425_445; obtain ⟨hcz175_0, hcz175_1, hfz175_0, hfz175_1⟩ := cz2 BK425))
            go_ret
            exact ⟨by first | rfl | (simp [errW_none, errW_some] <;> rfl) | (simp [*, errW_none, errW_some] <;> rfl), bw w⟩
           ·
            rw [if_neg c132] at H
            have c132b0 : (t422 == 356 && (t423 == 485)) = false := by simpa using c132
            (try (have c132b1 : decide (t422 = 356 && (t423 == 485)) = false := by simpa using c132))
            (try (have c132b2 : (t422 == 356 && (t423 == 485)) = false := by simpa using c132))
            (try (have c132b3 : ¬ (t422 = 356 && (t423 == 485)) := by simpa using c132))
            clear c132
            exact absurd H (by simp)
          ·
           rw [if_neg c131] at H
           have c131b0 : (t402 == 107 && (t403 == 146)) = false := by simpa using c131
           (try (have c131b1 : decide (t402 = 107 && (t403 == 146)) = false := by simpa using c131))
           (try (have c131b2 : (t402 == 107 && (t403 == 146)) = false := by simpa using c131))
           (try (have c131b3 : ¬ (t402 = 107 && (t403 == 146)) := by simpa using c131))
           clear c131
           exact absurd H (by simp)
         ·
          rw [if_neg c130] at H
          have c130b0 : (t382 == 1050 && (t383 == 1055)) = false := by simpa using c130
          (try (have c130b1 : decide (t382 = 1050 && (t383 == 1055)) = false := by simpa using c130))
          (try (have c130b2 : (t382 == 1050 && (t383 == 1055)) = false := by simpa using c130))
          (try (have c130b3 : ¬ (t382 = 1050 && (t383 == 1055)) := by simpa using c130))
          clear c130
          exact absurd H (by simp)
        ·
         replace c129 := Bool.eq_false_iff.mpr c129
         subst c129
         rw [if_neg (show ¬ (false = true) by decide)] at H
         exact absurd H (by simp)
       ·
        replace c127 := Bool.eq_false_iff.mpr c127
        subst c127
        rw [if_neg (show ¬ (false = true) by decide)] at H
        exact absurd H (by simp)
end Go.Proofs.YtapijkdgkajoeaaDoor.PF
end
section
namespace Go.Proofs.YtapijkdgkajoeaaDoor.PF
open Go.RowKit Go.Proofs.YtapijkdgkajoeaaDoorW.PrintWords Go.Proofs.YtapijkdgkajoeaaDoorW.PrintMore
set_option maxRecDepth 100000 in
theorem sane_at : snowlinelaw01_sane.f 200 = some true := by kernel_rfl
theorem sane_ev : Ev (fun k => snowlinelaw01_sane.f k) true := Ev.of (fun k => snowlinelaw01_sane.mono k) sane_at
end Go.Proofs.YtapijkdgkajoeaaDoor.PF
end
section
namespace Go.Proofs.YtapijkdgkajoeaaDoor.PF
open Go.RowKit Go.Proofs.YtapijkdgkajoeaaDoorW.PrintWords Go.Proofs.YtapijkdgkajoeaaDoorW.PrintLast Go.Proofs.YtapijkdgkajoeaaDoorW.PrintMore
attribute [local go_sem] max2_int min2_int max_two min_two
set_option linter.unusedVariables false
set_option linter.unusedSimpArgs false
attribute [local go_sem high] ixA103_1
attribute [local go_sem high] eqA40
def snowlinelaw01_CourseDrifts.f (k : Nat) (a0_0 : Int) (a0_1 : Int) (l0_2 : List (S26)) (a1_0 : Int) (a1_1 : Int) (a1_2 : Int) : Option (Bool) := (snowlinelaw01_sane.f k).bind fun t572 => (if t572 = true then (if (l0_2.length : Int) > 100 then (some true) else ((course_Drift.f k a0_0 a0_1 l0_2 a1_0 a1_2).bind fun bt573 => ((snowlineref01_Drift.f k a0_0 a0_1 l0_2 a1_0 a1_2).bind fun bt577 => ((course_Turn.f k a0_0 a0_1 l0_2 a1_0 a1_1 a1_2).bind fun bt581 => ((snowlineref01_Turn.f k a0_0 a0_1 l0_2 a1_0 a1_1 a1_2).bind fun bt585 => (if (bt573.1 == bt577.1 && (bt573.2.1 == bt577.2.1)) = true then (if bt573.2.2 = bt577.2.2 then (if (bt581.1 == bt585.1 && (bt581.2.1 == bt585.2.1)) = true then (some (bt581.2.2 == bt585.2.2)) else (some false)) else (some false)) else (some false))))))) else (some false))
set_option maxHeartbeats 8000000 in
set_option maxRecDepth 100000 in
theorem snowlinelaw01_CourseDrifts.calls (k : Nat) (a0_0 : Int) (a0_1 : Int) (A0_2 : Option Addr) (c0_2 : Nat) (l0_2 : List (S26)) (a1_0 : Int) (a1_1 : Int) (a1_2 : Int) (w : World) (hT : TabH w) (hr0_2 : Kd.C k26 w A0_2 l0_2.length l0_2) (hc0_2 : l0_2.length ≤ c0_2) (h : snowlinelaw01_CourseDrifts.f k a0_0 a0_1 l0_2 a1_0 a1_1 a1_2 = some true) :
  Calls Tryd.prog 4 #[.agg #[.int .i64 a0_0, .int .i64 a0_1, .slice A0_2 l0_2.length c0_2], .agg #[.int .i64 a1_0, .int .i64 a1_1, .int .i64 a1_2]] w fun e w' => e = .returned (.bool true) ∧ Below w.heap.size w w' := by
 have hu24 := Tryd.underlying24
 have hu38 := Tryd.underlying38
 have hu40 := Tryd.underlying40
 have HR0_2 := Aside0.mk (hr0_2)
 have HC0_2 := Aside0.mk (hc0_2)
 clear hr0_2 hc0_2
 have HB := Bw.mk (Below.refl w.heap.size w)
 have H : ((snowlinelaw01_sane.f k).bind fun t572 => (if t572 = true then (if (l0_2.length : Int) > 100 then (some true) else ((course_Drift.f k a0_0 a0_1 l0_2 a1_0 a1_2).bind fun bt573 => ((snowlineref01_Drift.f k a0_0 a0_1 l0_2 a1_0 a1_2).bind fun bt577 => ((course_Turn.f k a0_0 a0_1 l0_2 a1_0 a1_1 a1_2).bind fun bt581 => ((snowlineref01_Turn.f k a0_0 a0_1 l0_2 a1_0 a1_1 a1_2).bind fun bt585 => (if (bt573.1 == bt577.1 && (bt573.2.1 == bt577.2.1)) = true then (if bt573.2.2 = bt577.2.2 then (if (bt581.1 == bt585.1 && (bt581.2.1 == bt585.2.1)) = true then (some (bt581.2.2 == bt585.2.2)) else (some false)) else (some false)) else (some false))))))) else (some false))) = some true := h
 clear h
 replace H := Option.bind_eq_some_iff.mp H
 obtain ⟨t572, A30, H⟩ := H
 have A3 := Aside0.mk (A30)
 clear A30
 by_cases c4 : t572 = true
 ·
  subst c4
  rw [if_pos rfl] at H
  by_cases c5 : (l0_2.length : Int) > 100
  ·
   rw [if_pos c5] at H
   have c5b0 : decide (100 < (l0_2.length : Int)) = true := decide_eq_true c5
   have c5b1 : decide (100 < l0_2.length) = true := decide_eq_true (by omega)
   clear c5 H
   go_enter Tryd.func4, Tryd.ntmps4
   go_wp2_with (first | ((with_reducible refine gate_dst (N := 2) rfl ?_); refine bxE 2 24 #[.int .i64 a0_0, .int .i64 a0_1, .slice A0_2 l0_2.length c0_2] (by rfl) (by rfl) (by first | (go_simp; done) | (go_simp; rfl)) ?_; intro gb570 hg w6 hbox hb; have BK570 := Bk.mk (hbox); have GE570 := eB w hg; replace HB := bS w hb; clear hb hbox hg) | ((with_reducible refine gate_dst (N := 3) rfl ?_); refine bxE 3 38 #[.int .i64 a1_0, .int .i64 a1_1, .int .i64 a1_2] (by rfl) (by rfl) (by first | (go_simp; done) | (go_simp; rfl)) ?_; intro gb571 hg w7 hbox hb; have BK571 := Bk.mk (hbox); have GE571 := eB w hg; have NB570_571 := nB gb570 hg; replace BK570 := kB gb570 hb; replace HB := bS w hb; clear hb hbox hg) | ((with_reducible refine gate_callee (f := 13) rfl ?_); refine goesLM (some 13) rfl rfl Tryd.func13 (by kernel_rfl) rfl #[] rfl (by rfl) ?_; (with_reducible refine (snowlinelaw01_sane.calls k   _ ?side1 A3.out).mono ?_); (case side1 => exact TabH.below hT (bw w)); rintro e w8 ⟨rfl, hb⟩; refine ⟨_, rfl, ?_⟩; replace BK570 := kB gb570 hb; replace BK571 := kB gb571 hb; replace HB := bS w hb; (try clear hb); obtain ⟨hnb9, hnc9⟩ := nn NB570_571; obtain ⟨hcz10_0, hcz10_1, hcz10_2, hfz10_0, hfz10_1, hfz10_2⟩ := cz3 BK570))
   go_ret
   exact ⟨by first | rfl | (simp [errW_none, errW_some] <;> rfl) | (simp [*, errW_none, errW_some] <;> rfl), bw w⟩
  ·
   rw [if_neg c5] at H
   have c5b0 : decide (100 < (l0_2.length : Int)) = false := decide_eq_false c5
   have c5b1 : decide (100 < l0_2.length) = false := decide_eq_false (by omega)
   clear c5
   replace H := Option.bind_eq_some_iff.mp H
   obtain ⟨⟨t573, t574, t575⟩, A110, H⟩ := H
   have A11 := Aside0.mk (A110)
   clear A110
   replace H := Option.bind_eq_some_iff.mp H
   obtain ⟨⟨t577, t578, t579⟩, A120, H⟩ := H
   have A12 := Aside0.mk (A120)
   clear A120
   replace H := Option.bind_eq_some_iff.mp H
   obtain ⟨⟨t581, t582, t583⟩, A130, H⟩ := H
   have A13 := Aside0.mk (A130)
   clear A130
   replace H := Option.bind_eq_some_iff.mp H
   obtain ⟨⟨t585, t586, t587⟩, A140, H⟩ := H
   have A14 := Aside0.mk (A140)
   clear A140
   by_cases c15 : (t573 == t577 && (t574 == t578)) = true
   ·
    rw [if_pos c15] at H
    have c15b0 : (t573 == t577 && (t574 == t578)) = true := c15
    (try (have c15b1 : decide (t573 = t577 && (t574 == t578)) = true := by simpa using c15))
    (try (have c15b2 : (t573 == t577 && (t574 == t578)) = true := by simpa using c15))
    clear c15
    by_cases c16 : t575 = t579
    ·
     rw [if_pos c16] at H
     have c16b0 : (t575 == t579) = true := beq_iff_eq.mpr c16
     have c16b1 : (t575 != t579) = false := bne_eq_false_iff_eq.mpr c16
     clear c16
     by_cases c17 : (t581 == t585 && (t582 == t586)) = true
     ·
      rw [if_pos c17] at H
      have c17b0 : (t581 == t585 && (t582 == t586)) = true := c17
      (try (have c17b1 : decide (t581 = t585 && (t582 == t586)) = true := by simpa using c17))
      (try (have c17b2 : (t581 == t585 && (t582 == t586)) = true := by simpa using c17))
      clear c17
      have H2_ := Option.some.inj H
      clear H
      go_enter Tryd.func4, Tryd.ntmps4
      go_wp2_with (first | ((with_reducible refine gate_dst (N := 2) rfl ?_); refine bxE 2 24 #[.int .i64 a0_0, .int .i64 a0_1, .slice A0_2 l0_2.length c0_2] (by rfl) (by rfl) (by first | (go_simp; done) | (go_simp; rfl)) ?_; intro gb570 hg w18 hbox hb; have BK570 := Bk.mk (hbox); have GE570 := eB w hg; replace HB := bS w hb; clear hb hbox hg) | ((with_reducible refine gate_dst (N := 3) rfl ?_); refine bxE 3 38 #[.int .i64 a1_0, .int .i64 a1_1, .int .i64 a1_2] (by rfl) (by rfl) (by first | (go_simp; done) | (go_simp; rfl)) ?_; intro gb571 hg w19 hbox hb; have BK571 := Bk.mk (hbox); have GE571 := eB w hg; have NB570_571 := nB gb570 hg; replace BK570 := kB gb570 hb; replace HB := bS w hb; clear hb hbox hg) | ((with_reducible refine gate_callee (f := 13) rfl ?_); refine goesLM (some 13) rfl rfl Tryd.func13 (by kernel_rfl) rfl #[] rfl (by rfl) ?_; (with_reducible refine (snowlinelaw01_sane.calls k   _ ?side1 A3.out).mono ?_); (case side1 => exact TabH.below hT (bw w)); rintro e w20 ⟨rfl, hb⟩; refine ⟨_, rfl, ?_⟩; replace BK570 := kB gb570 hb; replace BK571 := kB gb571 hb; replace HB := bS w hb; (try clear hb); obtain ⟨hnb21, hnc21⟩ := nn NB570_571; obtain ⟨hcz22_0, hcz22_1, hcz22_2, hfz22_0, hfz22_1, hfz22_2⟩ := cz3 BK570; obtain ⟨hcz23_0, hcz23_1, hcz23_2, hfz23_0, hfz23_1, hfz23_2⟩ := cz3 BK571) | ((with_reducible refine gate_callee (f := 23) rfl ?_); refine goesLM (some 25) rfl rfl Tryd.func23 (by kernel_rfl) rfl #[.agg #[.int .i64 a0_0, .int .i64 a0_1, .slice A0_2 l0_2.length c0_2], .int .i64 a1_0, .int .i64 a1_2] rfl (by rfl) ?_; (with_reducible refine (course_Drift.calls k a0_0 a0_1 _ _ l0_2 a1_0 a1_2 t573 t574 t575 _ ?side1 ?side2 A11.out).mono ?_); (case side1 => exact cP (Kd.C_below HR0_2.out HB.out)); (case side2 => exact HC0_2.out); rintro e w24 ⟨rfl, hb⟩; refine ⟨_, rfl, ?_⟩; replace BK570 := kB gb570 hb; replace BK571 := kB gb571 hb; replace HB := bS w hb; (try clear hb)) | ((with_reducible refine gate_dst (N := 5) rfl ?_); refine bxE 5 40 #[.int .i64 0, .int .i64 0] (by rfl) (by rfl) (by first | (go_simp; done) | (go_simp; rfl)) ?_; intro gb576 hg w25 hbox hb; have BK576 := Bk.mk (hbox); have GE576 := eB w hg; have NB570_576 := nB gb570 hg; have NB571_576 := nB gb571 hg; replace BK570 := kB gb570 hb; replace BK571 := kB gb571 hb; replace HB := bS w hb; clear hb hbox hg; obtain ⟨hnc26, hnb26⟩ := nn NB570_576; obtain ⟨hnc27, hnb27⟩ := nn NB571_576; obtain ⟨hcz28_0, hcz28_1, hfz28_0, hfz28_1⟩ := cz2 BK576; obtain ⟨hcz29_0, hcz29_1, hcz29_2, hfz29_0, hfz29_1, hfz29_2⟩ := cz3 BK570; obtain ⟨hcz30_0, hcz30_1, hcz30_2, hfz30_0, hfz30_1, hfz30_2⟩ := cz3 BK571) | ((with_reducible refine gate_callee (f := 24) rfl ?_); refine goesLM (some 34) rfl rfl Tryd.func24 (by kernel_rfl) rfl #[.agg #[.int .i64 a0_0, .int .i64 a0_1, .slice A0_2 l0_2.length c0_2], .int .i64 a1_0, .int .i64 a1_2] rfl (by rfl) ?_; (with_reducible refine (snowlineref01_Drift.calls k a0_0 a0_1 _ _ l0_2 a1_0 a1_2 t577 t578 t579 _ ?side1 ?side2 A12.out).mono ?_); (case side1 => exact Kd.C_below HR0_2.out (bw w)); (case side2 => exact HC0_2.out); rintro e w31 ⟨rfl, hb⟩; refine ⟨_, rfl, ?_⟩; replace BK570 := kB gb570 hb; replace BK571 := kB gb571 hb; replace BK576 := kBo gb576 (.cells #[.int .i64 t573, .int .i64 t574] 40 (0, 0)) hb (by rfl); replace HB := bS w hb; (try clear hb)) | ((with_reducible refine gate_dst (N := 7) rfl ?_); refine bxE 7 40 #[.int .i64 0, .int .i64 0] (by rfl) (by rfl) (by first | (go_simp; done) | (go_simp; rfl)) ?_; intro gb580 hg w32 hbox hb; have BK580 := Bk.mk (hbox); have GE580 := eB w hg; have NB570_580 := nB gb570 hg; have NB571_580 := nB gb571 hg; have NB576_580 := nB gb576 hg; replace BK570 := kB gb570 hb; replace BK571 := kB gb571 hb; replace BK576 := kB gb576 hb; replace HB := bS w hb; clear hb hbox hg; obtain ⟨hnc33, hnb33⟩ := nn NB570_580; obtain ⟨hnc34, hnb34⟩ := nn NB571_580; obtain ⟨hnc35, hnb35⟩ := nn NB576_580; obtain ⟨hcz36_0, hcz36_1, hfz36_0, hfz36_1⟩ := cz2 BK580; obtain ⟨hcz37_0, hcz37_1, hcz37_2, hfz37_0, hfz37_1, hfz37_2⟩ := cz3 BK570; obtain ⟨hcz38_0, hcz38_1, hcz38_2, hfz38_0, hfz38_1, hfz38_2⟩ := cz3 BK571) | ((with_reducible refine gate_callee (f := 25) rfl ?_); refine goesLM (some 45) rfl rfl Tryd.func25 (by kernel_rfl) rfl #[.agg #[.int .i64 a0_0, .int .i64 a0_1, .slice A0_2 l0_2.length c0_2], .int .i64 a1_0, .int .i64 a1_1, .int .i64 a1_2] rfl (by rfl) ?_; (with_reducible refine (course_Turn.calls k a0_0 a0_1 _ _ l0_2 a1_0 a1_1 a1_2 t581 t582 t583 _ ?side1 ?side2 A13.out).mono ?_); (case side1 => exact Kd.C_below HR0_2.out (bw w)); (case side2 => exact HC0_2.out); rintro e w39 ⟨rfl, hb⟩; refine ⟨_, rfl, ?_⟩; replace BK570 := kB gb570 hb; replace BK571 := kB gb571 hb; replace BK576 := kB gb576 hb; replace BK580 := kBo gb580 (.cells #[.int .i64 t577, .int .i64 t578] 40 (0, 0)) hb (by rfl); replace HB := bS w hb; (try clear hb)) | ((with_reducible refine gate_dst (N := 9) rfl ?_); refine bxE 9 40 #[.int .i64 0, .int .i64 0] (by rfl) (by rfl) (by first | (go_simp; done) | (go_simp; rfl)) ?_; intro gb584 hg w40 hbox hb; have BK584 := Bk.mk (hbox); have GE584 := eB w hg; have NB570_584 := nB gb570 hg; have NB571_584 := nB gb571 hg; have NB576_584 := nB gb576 hg; have NB580_584 := nB gb580 hg; replace BK570 := kB gb570 hb; replace BK571 := kB gb571 hb; replace BK576 := kB gb576 hb; replace BK580 := kB gb580 hb; replace HB := bS w hb; clear hb hbox hg; obtain ⟨hnc41, hnb41⟩ := nn NB570_584; obtain ⟨hnc42, hnb42⟩ := nn NB571_584; obtain ⟨hnc43, hnb43⟩ := nn NB576_584; obtain ⟨hnc44, hnb44⟩ := nn NB580_584; obtain ⟨hcz45_0, hcz45_1, hfz45_0, hfz45_1⟩ := cz2 BK584; obtain ⟨hcz46_0, hcz46_1, hcz46_2, hfz46_0, hfz46_1, hfz46_2⟩ := cz3 BK570; obtain ⟨hcz47_0, hcz47_1, hcz47_2, hfz47_0, hfz47_1, hfz47_2⟩ := cz3 BK571) | ((with_reducible refine gate_callee (f := 26) rfl ?_); refine goesLM (some 56) rfl rfl Tryd.func26 (by kernel_rfl) rfl #[.agg #[.int .i64 a0_0, .int .i64 a0_1, .slice A0_2 l0_2.length c0_2], .int .i64 a1_0, .int .i64 a1_1, .int .i64 a1_2] rfl (by rfl) ?_; (with_reducible refine (snowlineref01_Turn.calls k a0_0 a0_1 _ _ l0_2 a1_0 a1_1 a1_2 t585 t586 t587 _ ?side1 ?side2 A14.out).mono ?_); (case side1 => exact Kd.C_below HR0_2.out (bw w)); (case side2 => exact HC0_2.out); rintro e w48 ⟨rfl, hb⟩; refine ⟨_, rfl, ?_⟩; replace BK570 := kB gb570 hb; replace BK571 := kB gb571 hb; replace BK576 := kB gb576 hb; replace BK580 := kB gb580 hb; replace BK584 := kBo gb584 (.cells #[.int .i64 t581, .int .i64 t582] 40 (0, 0)) hb (by rfl); replace HB := bS w hb; (try clear hb)) | ((with_reducible refine gate_dst (N := 11) rfl ?_); refine bxE 11 40 #[.int .i64 0, .int .i64 0] (by rfl) (by rfl) (by first | (go_simp; done) | (go_simp; rfl)) ?_; intro gb588 hg w49 hbox hb; have BK588 := Bk.mk (hbox); have GE588 := eB w hg; have NB570_588 := nB gb570 hg; have NB571_588 := nB gb571 hg; have NB576_588 := nB gb576 hg; have NB580_588 := nB gb580 hg; have NB584_588 := nB gb584 hg; replace BK570 := kB gb570 hb; replace BK571 := kB gb571 hb; replace BK576 := kB gb576 hb; replace BK580 := kB gb580 hb; replace BK584 := kB gb584 hb; replace HB := bS w hb; clear hb hbox hg; obtain ⟨hnc50, hnb50⟩ := nn NB570_588; obtain ⟨hnc51, hnb51⟩ := nn NB571_588; obtain ⟨hnc52, hnb52⟩ := nn NB576_588; obtain ⟨hnc53, hnb53⟩ := nn NB580_588; obtain ⟨hnc54, hnb54⟩ := nn NB584_588; obtain ⟨hcz55_0, hcz55_1, hfz55_0, hfz55_1⟩ := cz2 BK588; obtain ⟨hcz56_0, hcz56_1, hfz56_0, hfz56_1⟩ := cz2 BK576; obtain ⟨hcz57_0, hcz57_1, hfz57_0, hfz57_1⟩ := cz2 BK580; obtain ⟨hcz58_0, hcz58_1, hfz58_0, hfz58_1⟩ := cz2 BK584))
      go_ret
      exact ⟨by first | rfl | (simp [errW_none, errW_some] <;> rfl) | (simp [*, errW_none, errW_some] <;> rfl), bw w⟩
     ·
      rw [if_neg c17] at H
      have c17b0 : (t581 == t585 && (t582 == t586)) = false := by simpa using c17
      (try (have c17b1 : decide (t581 = t585 && (t582 == t586)) = false := by simpa using c17))
      (try (have c17b2 : (t581 == t585 && (t582 == t586)) = false := by simpa using c17))
      (try (have c17b3 : ¬ (t581 = t585 && (t582 == t586)) := by simpa using c17))
      clear c17
      exact absurd H (by simp)
    ·
     rw [if_neg c16] at H
     have c16b0 : (t575 == t579) = false := beq_eq_false_iff_ne.mpr c16
     have c16b1 : (t575 != t579) = true := bne_iff_ne.mpr c16
     exact absurd H (by simp)
   ·
    rw [if_neg c15] at H
    have c15b0 : (t573 == t577 && (t574 == t578)) = false := by simpa using c15
    (try (have c15b1 : decide (t573 = t577 && (t574 == t578)) = false := by simpa using c15))
    (try (have c15b2 : (t573 == t577 && (t574 == t578)) = false := by simpa using c15))
    (try (have c15b3 : ¬ (t573 = t577 && (t574 == t578)) := by simpa using c15))
    clear c15
    exact absurd H (by simp)
 ·
  replace c4 := Bool.eq_false_iff.mpr c4
  subst c4
  rw [if_neg (show ¬ (false = true) by decide)] at H
  exact absurd H (by simp)
end Go.Proofs.YtapijkdgkajoeaaDoor.PF
end
section
namespace Go.Proofs.YtapijkdgkajoeaaDoor.PF
open Go.RowKit Go.Proofs.YtapijkdgkajoeaaDoorW.PrintWords Go.Proofs.YtapijkdgkajoeaaDoorW.PrintMore
theorem pureDrifts (no rate : Int) (l : List S26) (a b c : Int) : Ev (fun k => snowlinelaw01_CourseDrifts.f k no rate l a b c) true := by
  unfold snowlinelaw01_CourseDrifts.f
  refine Ev.bind sane_ev ?_
  by_cases hn : (l.length : Int) > 100
  · exact Ev.congr (fun k => by rw [if_pos rfl, if_pos hn]) (Ev.now true)
  refine Ev.congr (fun k => by rw [if_pos rfl, if_neg hn]) ?_
  have hn' : l.length ≤ 100 := by omega
  obtain ⟨e, he, e1⟩ := course_Drift_eq no rate l a c hn'
  obtain ⟨e', he', e2⟩ := ref_Drift_eq no rate l a c hn'
  obtain rfl := he.same he'
  obtain ⟨e', he', e3⟩ := course_Turn_eq no rate l a b c hn'
  obtain rfl := he.same he'
  obtain ⟨e', he', e4⟩ := ref_Turn_eq no rate l a b c hn'
  obtain rfl := he.same he'
  refine Ev.bind e1 (Ev.bind e2 (Ev.bind e3 (Ev.bind e4 (Ev.const ?_))))
  simp
end Go.Proofs.YtapijkdgkajoeaaDoor.PF
end
section
namespace Go.Proofs.YtapijkdgkajoeaaDoor
open Go.ChangeShapes Go.WideShapes Go.ChangeAt Go.RowKit
open PF
set_option maxRecDepth 100000 in
theorem courseDrifts_lifted (os : Os) (started : os.Started) (H : Type) (enc : TypeId × Value → H) :
    ReturnsInHanded {} Tryd.checked os 4 .any (fun w args => (Rows.courseDriftsSpec.pre enc Tryd.prog Tryd.f4 [] false w args ∧ laidMetH Tryd.prog laid3 w) ∧ sizedMet enc Tryd.prog Tryd.f4 (OpenSpec.ofChange Rows.courseDriftsSpec) false w args)
      (Rows.courseDriftsSpec.post enc Tryd.prog Tryd.f4 false true false false) := by
  refine returnsInHanded_of_change_and (C := Tryd.checked) (X := fun w _ => laidMetH Tryd.prog laid3 w) (fun _ _ _ hh h => h.of_heap hh) ownNo started (by kernel_rfl) Tryd.func4
    (ChangeSpec.witness_shaped (enc := enc) (C := Tryd.checked) (os := os) (X := fun w _ => laidMetH Tryd.prog laid3 w) false (World.doorLaid Tryd.prog 24 os)
      #[.agg #[.int .i64 0, .int .i64 0, .slice none 0 0], .agg #[.int .i64 0, .int .i64 0, .int .i64 0]] 8 rfl (World.shaped_of_RefB (by kernel_rfl) (by kernel_rfl)) (by kernel_rfl) (by kernel_rfl) (by kernel_rfl) (door_met os _)) ?_
  intro W base args ds gs before hval0 hW _ _ hL _
  have hval : ∀ (j : Nat) t v, Tryd.f4.params[j]? = some t → args[j]? = some v → Value.okWide Tryd.prog W .any base t v := hval0
  have hW' := hW
  obtain ⟨p, q, hA0, hV, rfl, hfz, hnd⟩ := hW
  have hA : DataW.TrodAll enc Tryd.prog W 0 (fun _ => true) true Tryd.f4.params.toList args.toList ds p := hA0
  rw [Tryd.params4] at hA hval
  obtain ⟨v0, vs0, d0, ds0, p0, q0, hargs, rfl, rfl, h0, r0⟩ := trodAll_cons hA
  obtain ⟨v1, vs1, d1, ds1, p1, q1, rfl, rfl, rfl, h1, r1⟩ := trodAll_cons r0
  obtain ⟨rfl, rfl, rfl⟩ := trodAll_nil r1
  obtain rfl : args = #[v0, v1] := by cases args; simp_all
  obtain ⟨rfl, rfl⟩ := trodVars_none hV
  have lt0 := argLt h0
  have lt1 := argLt h1
  obtain ⟨no0, rate0, A0, l0, c0, rfl, wa0, wb0, hc0, hC0, wl0⟩ := arg24 (hval 0 24 v0 rfl rfl) h0
  obtain ⟨a1, b1, e1, rfl, wa1⟩ := arg38 (hval 1 38 v1 rfl rfl) h1
  clear hA0 hval0
  obtain ⟨k, hk0⟩ := pureDrifts no0 rate0 l0 a1 b1 e1
  have hk := hk0 k (Nat.le_refl k)
  refine (snowlinelaw01_CourseDrifts.calls k no0 rate0 A0 c0 l0 a1 b1 e1 W (tab_of_laid hL) hC0 hc0 hk).mono fun e W' ⟨he, bel⟩ => ?_
  subst he
  exact ⟨_, rfl, _, _, _, [], _, [], hW', trodAll_mk1 (shut_bool Tryd.underlying4 _), (trodAll_cons_mk (Below.trod laidOut (by kernel_rfl) (of_decide_eq_true (by kernel_rfl)) h0 bel lt0) (trodAll_cons_mk (Below.trod laidOut (by kernel_rfl) (of_decide_eq_true (by kernel_rfl)) h1 bel lt1) trodAll_mk0)), rfl, bel.frame _, fun h => by cases h⟩
theorem courseDrifts_row_holds : Rows.CourseDriftsSaid :=
  OpenClaim.holds_of_wide 4 Tryd.f4 rfl rfl rfl rfl rfl rfl rfl ⟨rfl, rfl, rfl, rfl, rfl⟩ rfl rfl rfl rfl rfl (by kernel_rfl) Tryd.func4 (by kernel_rfl)
    (of_decide_eq_true (by kernel_rfl)) (by unfold Func.isWrapper; first | (rw [if_pos (by decide +kernel)]; kernel_rfl) | (rw [if_neg (by decide +kernel)]; exact ⟨rfl, rfl⟩))
    (fun os started H enc _ => courseDrifts_lifted os started H enc)
theorem courseDrifts_card_holds : Rows.CourseDriftsCardSaid :=
  Claim7.holds_tied_plain_at .later [] [.data, .data, .data] true (true, "2280f43e37630aca62f1f244f2a23adb94f0c0035697a9b1153db5b69b706103") false
    courseDrifts_row_holds (fun _ h => by cases h) (by kernel_rfl) (fun _ h => by cases h) courseDrifts_row_tie rfl ⟨rfl, rfl⟩ (by kernel_rfl) rfl
    (fun f fn hf hfn => by
      obtain rfl : f = 4 := Option.some.inj ((show Tryd.prog.funcNamed "snowline/snowlinelaw01.CourseDrifts" = some 4 by kernel_rfl).symm.trans hf) |>.symm
      obtain rfl : fn = Tryd.f4 := (Option.some.inj (Tryd.func4.symm.trans hfn)).symm
      exact ⟨by kernel_rfl, fun j t ht => by
        rw [Tryd.params4] at ht
        have hm : t ∈ [24, 38] := by simpa using Array.mem_of_getElem? ht
        have hall : ([24, 38].all fun u => !Tryd.prog.wantsStandIn u) = true := by kernel_rfl
        exact (show Tryd.prog.wantsStandIn t = false by simpa using List.all_eq_true.1 hall t hm)⟩)
    (by kernel_rfl)
end Go.Proofs.YtapijkdgkajoeaaDoor
end
