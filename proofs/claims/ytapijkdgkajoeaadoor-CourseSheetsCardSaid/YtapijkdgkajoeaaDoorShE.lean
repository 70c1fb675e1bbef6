/- For every input, with the program's own tables laid as its text lays them, the law CourseSheets returns true and leaves its arguments as they read; no condition. Part 5 of 6. -/
import Derived.Test.YtapijkdgkajoeaaDoorShD
import Derived.Shelf.Strings.Builder1
import Derived.Lib.AppendIntMem
import Derived.Shelf.Small.Wraps
import Derived.Shelf.Strings.BuilderF
import Derived.Shelf.Strings.BuilderK
import Derived.Shelf.Strconv.Itoa0
import Derived.Shelf.Strconv.Itoa1
import Derived.Shelf.LaysM
import Derived.Shelf.Strconv.Itoa2
import Derived.Shelf.Strings.BuilderCap
import Derived.Shelf.Slices.Turned
import Derived.Shelf.Slices.Reverse
import Derived.Shelf.Slices.Equal
import Derived.Ground.Names2Prog
import Derived.Shelf.Slices.Clone
import Derived.Shelf.Slices.SearchI
import Derived.Shelf.Slices.Cells
import Derived.Shelf.Slices.Empties
import Derived.Shelf.Slices.Empties2
section
namespace Go.Proofs.YtapijkdgkajoeaaDoor.PF
open Go.RowKit Go.Proofs.YtapijkdgkajoeaaDoorW.PrintWords Go.Proofs.YtapijkdgkajoeaaDoorW.PrintLast Go.Proofs.YtapijkdgkajoeaaDoorW.PrintMore
attribute [local go_sem] max2_int min2_int max_two min_two
set_option linter.unusedVariables false
set_option linter.unusedSimpArgs false
attribute [local go_sem high] ixA103_1
def snowlineref01_Water.f (k : Nat) (a0_0 : Int) (a0_1 : Int) (l0_2 : List (S26)) (a1_0 : Int) (a1_1 : Int) (a1_2 : Int) (a1_3 : Int) (a1_4 : Int) (a1_5 : Int) (a1_6 : Int) (a1_7 : Int) (l1_8 : List (S71)) (a2 : Int) (a3 : Int) : Option (Int × Int × Int) := (snowlineref01_weighed.f k a0_0 a0_1 l0_2 a1_0 a1_1 a1_2 a1_3 a1_4 a1_5 a1_6 a1_7 l1_8 a2 a3).bind fun t641 => (if t641 = 0 then ((snowlineref01_turns.f k a0_0 a0_1 l0_2 a1_0 a1_1 a1_2 a1_3 a1_4 a1_5 a1_6 a1_7 l1_8 a3).bind fun bt642 => (if bt642.2.2 = true then ((snowlineref01_snow.f a1_0 a1_1 a1_2 a1_3 a1_4 a1_5 a1_6 a1_7 l1_8 a2 bt642.1 bt642.2.1).bind fun bt646 => ((snowlineref01_rounded.f bt646.1 bt646.2 (wrap64 (20 * a1_5))).bind fun bt648 => (some (bt648.1, bt648.2, 0)))) else (some (0, 0, 13)))) else (some (0, 0, t641)))
def snowlineref01_Water.T7 : Bool × List (List Nat × List Nat) := (true, [([], []), ([], []), ([], []), ([0, 1, 2], [0, 1, 2]), ([], []), ([4], [4]), ([5], [5]), ([3, 6, 3], [3, 6]), ([7, 7, 0, 1, 2, 3, 4, 5, 6, 7], [7]), ([8, 0, 1, 2, 3, 4, 5, 6, 7, 8], [])])
def snowlineref01_Water.B7 : List Nat := [0, 0, 0, 7, 0, 16, 48, 127, 255, 511]
theorem snowlineref01_Water.tab7 : rtab .any (opsOf Tryd.f30 7) = snowlineref01_Water.T7 := by kernel_rfl
theorem snowlineref01_Water.bits7 : waitsOk snowlineref01_Water.T7.2 snowlineref01_Water.B7 = true := by kernel_rfl
set_option maxHeartbeats 8000000 in
set_option maxRecDepth 100000 in
theorem snowlineref01_Water.calls (k : Nat) (a0_0 : Int) (a0_1 : Int) (A0_2 : Option Addr) (c0_2 : Nat) (l0_2 : List (S26)) (a1_0 : Int) (a1_1 : Int) (a1_2 : Int) (a1_3 : Int) (a1_4 : Int) (a1_5 : Int) (a1_6 : Int) (a1_7 : Int) (A1_8 : Option Addr) (c1_8 : Nat) (l1_8 : List (S71)) (a2 : Int) (a3 : Int) (r1 : Int) (r2 : Int) (r3 : Int) (w : World) (hr0_2 : Kd.C k26 w A0_2 l0_2.length l0_2) (hc0_2 : l0_2.length ≤ c0_2) (hr1_8 : Kd.C k71 w A1_8 l1_8.length l1_8) (hc1_8 : l1_8.length ≤ c1_8) (h : snowlineref01_Water.f k a0_0 a0_1 l0_2 a1_0 a1_1 a1_2 a1_3 a1_4 a1_5 a1_6 a1_7 l1_8 a2 a3 = some (r1, r2, r3)) :
  Calls Tryd.prog 30 #[.agg #[.int .i64 a0_0, .int .i64 a0_1, .slice A0_2 l0_2.length c0_2], .agg #[.int .i64 a1_0, .int .i64 a1_1, .int .i64 a1_2, .int .i64 a1_3, .int .i64 a1_4, .int .i64 a1_5, .int .i64 a1_6, .int .i64 a1_7, .slice A1_8 l1_8.length c1_8], .int .i64 a2, .int .i64 a3] w fun e w' => e = .returned (.tuple #[.agg #[.int .i64 r1, .int .i64 r2], .int .i64 r3]) ∧ Below w.heap.size w w' := by
 have hu24 := Tryd.underlying24
 have hu47 := Tryd.underlying47
 have hu40 := Tryd.underlying40
 have HR0_2 := Aside0.mk (hr0_2)
 have HC0_2 := Aside0.mk (hc0_2)
 clear hr0_2 hc0_2
 have HR1_8 := Aside0.mk (hr1_8)
 have HC1_8 := Aside0.mk (hc1_8)
 clear hr1_8 hc1_8
 have HB := Bw.mk (Below.refl w.heap.size w)
 have H : ((snowlineref01_weighed.f k a0_0 a0_1 l0_2 a1_0 a1_1 a1_2 a1_3 a1_4 a1_5 a1_6 a1_7 l1_8 a2 a3).bind fun t641 => (if t641 = 0 then ((snowlineref01_turns.f k a0_0 a0_1 l0_2 a1_0 a1_1 a1_2 a1_3 a1_4 a1_5 a1_6 a1_7 l1_8 a3).bind fun bt642 => (if bt642.2.2 = true then ((snowlineref01_snow.f a1_0 a1_1 a1_2 a1_3 a1_4 a1_5 a1_6 a1_7 l1_8 a2 bt642.1 bt642.2.1).bind fun bt646 => ((snowlineref01_rounded.f bt646.1 bt646.2 (wrap64 (20 * a1_5))).bind fun bt648 => (some (bt648.1, bt648.2, 0)))) else (some (0, 0, 13)))) else (some (0, 0, t641)))) = some (r1, r2, r3) := h
 clear h
 replace H := Option.bind_eq_some_iff.mp H
 obtain ⟨t641, A50, H⟩ := H
 have A5 := Aside0.mk (A50)
 clear A50
 by_cases c6 : t641 = 0
 ·
  rw [if_pos c6] at H
  have c6b0 : (t641 == 0) = true := beq_iff_eq.mpr c6
  have c6b1 : (t641 != 0) = false := bne_eq_false_iff_eq.mpr c6
  clear c6
  replace H := Option.bind_eq_some_iff.mp H
  obtain ⟨⟨t642, t643, t644⟩, A70, H⟩ := H
  have A7 := Aside0.mk (A70)
  clear A70
  by_cases c8 : t644 = true
  ·
   subst c8
   rw [if_pos rfl] at H
   replace H := Option.bind_eq_some_iff.mp H
   obtain ⟨⟨t646, t647⟩, A90, H⟩ := H
   have A9 := Aside0.mk (A90)
   clear A90
   replace H := Option.bind_eq_some_iff.mp H
   obtain ⟨⟨t648, t649⟩, A100, H⟩ := H
   have A10 := Aside0.mk (A100)
   clear A100
   simp only [Option.some.injEq, Prod.mk.injEq] at H
   obtain ⟨rfl, rfl, rfl⟩ := H
   go_enter Tryd.func30, Tryd.ntmps30
   try go_wp2_with (first | ((with_reducible refine gate_dst (N := 4) rfl ?_); refine bxE 4 24 #[.int .i64 a0_0, .int .i64 a0_1, .slice A0_2 l0_2.length c0_2] (by rfl) (by rfl) (by first | (go_simp; done) | (go_simp; rfl)) ?_; intro gb638 hg w11 hbox hb; have BK638 := Bk.mk (hbox); have GE638 := eB w hg; replace HB := bS w hb; clear hb hbox hg) | ((with_reducible refine gate_dst (N := 5) rfl ?_); refine bxE 5 47 #[.int .i64 a1_0, .int .i64 a1_1, .int .i64 a1_2, .int .i64 a1_3, .int .i64 a1_4, .int .i64 a1_5, .int .i64 a1_6, .int .i64 a1_7, .slice A1_8 l1_8.length c1_8] (by rfl) (by rfl) (by first | (go_simp; done) | (go_simp; rfl)) ?_; intro gb639 hg w12 hbox hb; have BK639 := Bk.mk (hbox); have GE639 := eB w hg; have NB638_639 := nB gb638 hg; replace BK638 := kB gb638 hb; replace HB := bS w hb; clear hb hbox hg) | ((with_reducible refine gate_dst (N := 8) rfl ?_); refine bxE 8 40 #[.int .i64 0, .int .i64 0] (by rfl) (by rfl) (by first | (go_simp; done) | (go_simp; rfl)) ?_; intro gb640 hg w13 hbox hb; have BK640 := Bk.mk (hbox); have GE640 := eB w hg; have NB638_640 := nB gb638 hg; have NB639_640 := nB gb639 hg; replace BK638 := kB gb638 hb; replace BK639 := kB gb639 hb; replace HB := bS w hb; clear hb hbox hg; obtain ⟨hnb14, hnc14⟩ := nn NB638_639; obtain ⟨hnb15, hnc15⟩ := nn NB638_640; obtain ⟨hcz16_0, hcz16_1, hcz16_2, hfz16_0, hfz16_1, hfz16_2⟩ := cz3 BK638; obtain ⟨hnb17, hnc17⟩ := nn NB639_640; obtain ⟨hcz18_0, hcz18_1, hcz18_2, hcz18_3, hcz18_4, hcz18_5, hcz18_6, hcz18_7, hcz18_8, hfz18_0, hfz18_1, hfz18_2, hfz18_3, hfz18_4, hfz18_5, hfz18_6, hfz18_7, hfz18_8⟩ := cz9 BK639) | ((with_reducible refine gate_callee (f := 83) rfl ?_); refine goesLM (some 17) rfl rfl Tryd.func83 (by kernel_rfl) rfl #[.agg #[.int .i64 a0_0, .int .i64 a0_1, .slice A0_2 l0_2.length c0_2], .agg #[.int .i64 a1_0, .int .i64 a1_1, .int .i64 a1_2, .int .i64 a1_3, .int .i64 a1_4, .int .i64 a1_5, .int .i64 a1_6, .int .i64 a1_7, .slice A1_8 l1_8.length c1_8], .int .i64 a2, .int .i64 a3] rfl (by rfl) ?_; (with_reducible refine (snowlineref01_weighed.calls k a0_0 a0_1 _ _ l0_2 a1_0 a1_1 a1_2 a1_3 a1_4 a1_5 a1_6 a1_7 _ _ l1_8 a2 a3 t641 _ ?side1 ?side2 ?side3 ?side4 A5.out).mono ?_); (case side1 => exact cP (Kd.C_below HR0_2.out HB.out)); (case side2 => exact HC0_2.out); (case side3 => exact cP (Kd.C_below HR1_8.out HB.out)); (case side4 => exact HC1_8.out); rintro e w19 ⟨rfl, hb⟩; refine ⟨_, rfl, ?_⟩; replace BK638 := kB gb638 hb; replace BK639 := kB gb639 hb; replace BK640 := kB gb640 hb; replace HB := bS w hb; (try clear hb); obtain ⟨hcz20_0, hcz20_1, hcz20_2, hfz20_0, hfz20_1, hfz20_2⟩ := cz3 BK638; obtain ⟨hcz21_0, hcz21_1, hcz21_2, hcz21_3, hcz21_4, hcz21_5, hcz21_6, hcz21_7, hcz21_8, hfz21_0, hfz21_1, hfz21_2, hfz21_3, hfz21_4, hfz21_5, hfz21_6, hfz21_7, hfz21_8⟩ := cz9 BK639) | ((with_reducible refine gate_callee (f := 84) rfl ?_); refine goesLM (some 26) rfl rfl Tryd.func84 (by kernel_rfl) rfl #[.agg #[.int .i64 a0_0, .int .i64 a0_1, .slice A0_2 l0_2.length c0_2], .agg #[.int .i64 a1_0, .int .i64 a1_1, .int .i64 a1_2, .int .i64 a1_3, .int .i64 a1_4, .int .i64 a1_5, .int .i64 a1_6, .int .i64 a1_7, .slice A1_8 l1_8.length c1_8], .int .i64 a3] rfl (by rfl) ?_; (with_reducible refine (snowlineref01_turns.calls k a0_0 a0_1 _ _ l0_2 a1_0 a1_1 a1_2 a1_3 a1_4 a1_5 a1_6 a1_7 _ _ l1_8 a3 t642 t643 true _ ?side1 ?side2 ?side3 ?side4 A7.out).mono ?_); (case side1 => exact cP (Kd.C_below HR0_2.out HB.out)); (case side2 => exact HC0_2.out); (case side3 => exact cP (Kd.C_below HR1_8.out HB.out)); (case side4 => exact HC1_8.out); rintro e w22 ⟨rfl, hb⟩; refine ⟨_, rfl, ?_⟩; replace BK638 := kB gb638 hb; replace BK639 := kB gb639 hb; replace BK640 := kB gb640 hb; replace HB := bS w hb; (try clear hb)) | ((with_reducible refine gate_dst (N := 11) rfl ?_); refine bxE 11 40 #[.int .i64 0, .int .i64 0] (by rfl) (by rfl) (by first | (go_simp; done) | (go_simp; rfl)) ?_; intro gb645 hg w23 hbox hb; have BK645 := Bk.mk (hbox); have GE645 := eB w hg; have NB638_645 := nB gb638 hg; have NB639_645 := nB gb639 hg; have NB640_645 := nB gb640 hg; replace BK638 := kB gb638 hb; replace BK639 := kB gb639 hb; replace BK640 := kB gb640 hb; replace HB := bS w hb; clear hb hbox hg; obtain ⟨hnc24, hnb24⟩ := nn NB638_645; obtain ⟨hnc25, hnb25⟩ := nn NB639_645; obtain ⟨hnc26, hnb26⟩ := nn NB640_645; obtain ⟨hcz27_0, hcz27_1, hfz27_0, hfz27_1⟩ := cz2 BK645))
   have n0_ : Bk ((w23.setCell ⟨gb645, 0, none⟩ (.int .i64 t642)).setCell ⟨gb645, 1, none⟩ (.int .i64 t643)) gb638 (.cells #[.int .i64 a0_0, .int .i64 a0_1, .slice A0_2 l0_2.length c0_2] 24 (0, 0)) := ⟨bko gb638 (by rfl)⟩
   have n1_ : Bk ((w23.setCell ⟨gb645, 0, none⟩ (.int .i64 t642)).setCell ⟨gb645, 1, none⟩ (.int .i64 t643)) gb639 (.cells #[.int .i64 a1_0, .int .i64 a1_1, .int .i64 a1_2, .int .i64 a1_3, .int .i64 a1_4, .int .i64 a1_5, .int .i64 a1_6, .int .i64 a1_7, .slice A1_8 l1_8.length c1_8] 47 (0, 0)) := ⟨bko gb639 (by rfl)⟩
   have n2_ : Bk ((w23.setCell ⟨gb645, 0, none⟩ (.int .i64 t642)).setCell ⟨gb645, 1, none⟩ (.int .i64 t643)) gb640 (.cells #[.int .i64 0, .int .i64 0] 40 (0, 0)) := ⟨bko gb640 (by rfl)⟩
   have n3_ : Bk ((w23.setCell ⟨gb645, 0, none⟩ (.int .i64 t642)).setCell ⟨gb645, 1, none⟩ (.int .i64 t643)) gb645 (.cells #[.int .i64 t642, .int .i64 t643] 40 (0, 0)) := ⟨bko gb645 (by rfl)⟩
   have n4_ : Bw w ((w23.setCell ⟨gb645, 0, none⟩ (.int .i64 t642)).setCell ⟨gb645, 1, none⟩ (.int .i64 t643)) := inferInstance
   (try clear BK638)
   (try clear BK639)
   (try clear BK640)
   (try clear BK645)
   (try clear HB)
   generalize ((w23.setCell ⟨gb645, 0, none⟩ (.int .i64 t642)).setCell ⟨gb645, 1, none⟩ (.int .i64 t643)) = w28 at n0_ n1_ n2_ n3_ n4_ ⊢
   have BK638 := n0_
   have BK639 := n1_
   have BK640 := n2_
   have BK645 := n3_
   have HB := n4_
   clear n0_ n1_ n2_ n3_ n4_
   have n0_ := Bk.mk (blk_drew BK638.out)
   have n1_ := Bk.mk (blk_drew BK639.out)
   have n2_ := Bk.mk (blk_drew BK640.out)
   have n3_ := Bk.mk (blk_drew BK645.out)
   have n4_ := Bw.mk (below_drew1 HB.out)
   clear BK638 BK639 BK640 BK645 HB
   have BK638 := n0_
   have BK639 := n1_
   have BK640 := n2_
   have BK645 := n3_
   have HB := n4_
   clear n0_ n1_ n2_ n3_ n4_
   refine start_ (n := 10) (S := fun w' => w'.cell? ⟨gb639, 0, none⟩ = some (.int .i64 a1_0) ∧ w'.cell? ⟨gb639, 1, none⟩ = some (.int .i64 a1_1) ∧ w'.cell? ⟨gb639, 2, none⟩ = some (.int .i64 a1_2) ∧ w'.cell? ⟨gb639, 3, none⟩ = some (.int .i64 a1_3) ∧ w'.cell? ⟨gb639, 4, none⟩ = some (.int .i64 a1_4) ∧ w'.cell? ⟨gb639, 5, none⟩ = some (.int .i64 a1_5) ∧ w'.cell? ⟨gb639, 6, none⟩ = some (.int .i64 a1_6) ∧ w'.cell? ⟨gb639, 7, none⟩ = some (.int .i64 a1_7) ∧ w'.cell? ⟨gb639, 8, none⟩ = some (.slice A1_8 l1_8.length c1_8) ∧ w'.cell? ⟨gb645, 0, none⟩ = some (.int .i64 t642) ∧ w'.cell? ⟨gb645, 1, none⟩ = some (.int .i64 t643)) (ds := []) #[false, false, false, false, false, false, false, false, false, false] (by kernel_rfl) rfl rfl ⟨bc BK639 0, bc BK639 1, bc BK639 2, bc BK639 3, bc BK639 4, bc BK639 5, bc BK639 6, bc BK639 7, bc BK639 8, bc BK645 0, bc BK645 1⟩ (fun hHeld => ?_); refine with_tabW snowlineref01_Water.tab7 snowlineref01_Water.bits7 (fun HT_ HW_ => ?_)
   generalize w28.drew = w29 at BK638 BK639 BK640 BK645 HB hHeld ⊢
   refine pS 1 (some 33) rfl rfl (any_of HT_.out (by kernel_rfl)) (fun _ _ _ h => h) (by rfl) (fun w' => by go_simp; with_reducible rfl) (by simp only [Act.put, List.setIfInBounds_toArray, List.set_cons_zero, List.set_cons_succ, i64_w]; rfl) ?_
   refine pS 4 (some 36) rfl rfl (any_of HT_.out (by kernel_rfl)) (fun _ _ _ h => h) (by rfl) (fun w' => by go_simp; with_reducible rfl) (by simp only [Act.put, List.setIfInBounds_toArray, List.set_cons_zero, List.set_cons_succ, i64_w]; rfl) ?_
   refine tS 0 (some 32) rfl rfl (take_ofW HT_.out HW_.out (by kernel_rfl)) (fun _ _ _ h => h) (by rfl) (by rintro w' ⟨s0, s1, s2, s3, s4, s5, s6, s7, s8, s9, s10⟩; go_simp; with_reducible rfl) hHeld (by simp only [Act.put, List.setIfInBounds_toArray, List.set_cons_zero, List.set_cons_succ, i64_w]; rfl) ?_
   refine tS 2 (some 34) rfl rfl (take_ofW HT_.out HW_.out (by kernel_rfl)) (fun _ _ _ h => h) (by rfl) (by rintro w' ⟨s0, s1, s2, s3, s4, s5, s6, s7, s8, s9, s10⟩; go_simp; with_reducible rfl) hHeld (by simp only [Act.put, List.setIfInBounds_toArray, List.set_cons_zero, List.set_cons_succ, i64_w]; rfl) ?_
   refine tS 5 (some 37) rfl rfl (take_ofW HT_.out HW_.out (by kernel_rfl)) (fun _ _ _ h => h) (by rfl) (by rintro w' ⟨s0, s1, s2, s3, s4, s5, s6, s7, s8, s9, s10⟩; go_simp; with_reducible rfl) hHeld (by simp only [Act.put, List.setIfInBounds_toArray, List.set_cons_zero, List.set_cons_succ, i64_w]; rfl) ?_
   refine pS 6 (some 38) rfl rfl (any_of HT_.out (by kernel_rfl)) (fun _ _ _ h => h) (by rfl) (fun w' => by go_simp; with_reducible rfl) (by simp only [Act.put, List.setIfInBounds_toArray, List.set_cons_zero, List.set_cons_succ, i64_w]; rfl) ?_
   refine one_ (i := 3) (N := some 35) #[true, true, true, true, true, true, true, false, false, false] rfl rfl (one_of HT_.out (by kernel_rfl)) (by decide) (fun K hK => ?_)
   refine goesM Tryd.func89 (by kernel_rfl) rfl #[.agg #[.int .i64 a1_0, .int .i64 a1_1, .int .i64 a1_2, .int .i64 a1_3, .int .i64 a1_4, .int .i64 a1_5, .int .i64 a1_6, .int .i64 a1_7, .slice A1_8 l1_8.length c1_8], .int .i64 a2, .agg #[.int .i64 t642, .int .i64 t643]] (by rfl) rfl rfl (by rfl) ?_
   with_reducible refine (snowlineref01_snow.calls a1_0 a1_1 a1_2 a1_3 a1_4 a1_5 a1_6 a1_7 _ _ l1_8 a2 t642 t643 t646 t647 _ ?side1 ?side2 A9.out).mono ?_
   (case side1 => exact cP (Kd.C_below HR1_8.out HB.out))
   (case side2 => exact HC1_8.out)
   rintro e w30 ⟨rfl, hb⟩
   refine ⟨_, rfl, ?_⟩
   replace BK638 := kB gb638 hb
   replace BK639 := kB gb639 hb
   replace BK640 := kB gb640 hb
   replace BK645 := kB gb645 hb
   replace HB := bS w hb
   (try clear hb)
   refine hK.out _ _ ⟨bc BK639 0, bc BK639 1, bc BK639 2, bc BK639 3, bc BK639 4, bc BK639 5, bc BK639 6, bc BK639 7, bc BK639 8, bc BK645 0, bc BK645 1⟩ (fun hHeld => ?_)
   clear hK K
   refine norm_ (a' := ?_) ?_ ?_
   rotate_left
   ·
    show Act.put _ (some 35) _ = _
    simp only [Act.put, List.setIfInBounds_toArray, List.set_cons_zero, List.set_cons_succ, i64_w]
    rfl
   refine one_ (i := 7) (N := some 39) #[true, true, true, true, true, true, true, true, false, false] rfl rfl (one_of HT_.out (by kernel_rfl)) (by decide) (fun K hK => ?_)
   refine goesM Tryd.func88 (by kernel_rfl) rfl #[.agg #[.int .i64 t646, .int .i64 t647], .int .i64 (wrap64 (20 * a1_5))] (by rfl) rfl rfl (by rfl) ?_
   with_reducible refine (snowlineref01_rounded.calls t646 t647 (wrap64 (20 * a1_5)) t648 t649 _ A10.out).mono ?_
   rintro e w31 ⟨rfl, hb⟩
   refine ⟨_, rfl, ?_⟩
   replace BK638 := kB gb638 hb
   replace BK639 := kB gb639 hb
   replace BK640 := kB gb640 hb
   replace BK645 := kB gb645 hb
   replace HB := bS w hb
   (try clear hb)
   refine hK.out _ _ ⟨bc BK639 0, bc BK639 1, bc BK639 2, bc BK639 3, bc BK639 4, bc BK639 5, bc BK639 6, bc BK639 7, bc BK639 8, bc BK645 0, bc BK645 1⟩ (fun hHeld => ?_)
   clear hK K
   refine norm_ (a' := ?_) ?_ ?_
   rotate_left
   ·
    show Act.put _ (some 39) _ = _
    simp only [Act.put, List.setIfInBounds_toArray, List.set_cons_zero, List.set_cons_succ, i64_w]
    rfl
   refine one_ (i := 8) (N := none) #[true, true, true, true, true, true, true, true, true, false] rfl rfl (one_of HT_.out (by kernel_rfl)) (by decide) (fun K hK => ?_)
   have hs32 : w31.cell? ⟨gb640, 0, none⟩ = some (.int .i64 0) := bc BK640 0
   have hfs32 := blk_frozen BK640.out 0
   have hns32_0 := NB638_640.out
   have hns32_1 := NB639_640.out
   have hns32_3 := NB640_645.out.symm
   have hms32_0 := NB638_640.out.symm
   have hms32_1 := NB639_640.out.symm
   have hms32_3 := NB640_645.out
   have hs33 : w31.cell? ⟨gb640, 1, none⟩ = some (.int .i64 0) := bc BK640 1
   have hfs33 := blk_frozen BK640.out 1
   have hns33_0 := NB638_640.out
   have hns33_1 := NB639_640.out
   have hns33_3 := NB640_645.out.symm
   have hms33_0 := NB638_640.out.symm
   have hms33_1 := NB639_640.out.symm
   have hms33_3 := NB640_645.out
   refine skip_ (w1 := ?_) (by rfl) rfl ?_ ?_
   rotate_left
   ·
    go_simp
    rfl
   refine hK.out _ _ ⟨((cell_far (p := ⟨gb640, _, none⟩) NB639_640.out _).trans (((cell_far (p := ⟨gb640, _, none⟩) NB639_640.out _).trans (hHeld.1)))), ((cell_far (p := ⟨gb640, _, none⟩) NB639_640.out _).trans (((cell_far (p := ⟨gb640, _, none⟩) NB639_640.out _).trans (hHeld.2.1)))), ((cell_far (p := ⟨gb640, _, none⟩) NB639_640.out _).trans (((cell_far (p := ⟨gb640, _, none⟩) NB639_640.out _).trans (hHeld.2.2.1)))), ((cell_far (p := ⟨gb640, _, none⟩) NB639_640.out _).trans (((cell_far (p := ⟨gb640, _, none⟩) NB639_640.out _).trans (hHeld.2.2.2.1)))), ((cell_far (p := ⟨gb640, _, none⟩) NB639_640.out _).trans (((cell_far (p := ⟨gb640, _, none⟩) NB639_640.out _).trans (hHeld.2.2.2.2.1)))), ((cell_far (p := ⟨gb640, _, none⟩) NB639_640.out _).trans (((cell_far (p := ⟨gb640, _, none⟩) NB639_640.out _).trans (hHeld.2.2.2.2.2.1)))), ((cell_far (p := ⟨gb640, _, none⟩) NB639_640.out _).trans (((cell_far (p := ⟨gb640, _, none⟩) NB639_640.out _).trans (hHeld.2.2.2.2.2.2.1)))), ((cell_far (p := ⟨gb640, _, none⟩) NB639_640.out _).trans (((cell_far (p := ⟨gb640, _, none⟩) NB639_640.out _).trans (hHeld.2.2.2.2.2.2.2.1)))), ((cell_far (p := ⟨gb640, _, none⟩) NB639_640.out _).trans (((cell_far (p := ⟨gb640, _, none⟩) NB639_640.out _).trans (hHeld.2.2.2.2.2.2.2.2.1)))), ((cell_far (p := ⟨gb640, _, none⟩) NB640_645.out.symm _).trans (((cell_far (p := ⟨gb640, _, none⟩) NB640_645.out.symm _).trans (hHeld.2.2.2.2.2.2.2.2.2.1)))), ((cell_far (p := ⟨gb640, _, none⟩) NB640_645.out.symm _).trans (((cell_far (p := ⟨gb640, _, none⟩) NB640_645.out.symm _).trans (hHeld.2.2.2.2.2.2.2.2.2.2))))⟩ (fun hHeld => ?_)
   clear hK K
   refine pS 9 (some 9) rfl rfl (any_of HT_.out (by kernel_rfl)) (fun _ _ _ h => h) (by rfl) (fun w' => by go_simp; with_reducible rfl) (by simp only [Act.put, List.setIfInBounds_toArray, List.set_cons_zero, List.set_cons_succ, i64_w]; rfl) ?_
   refine done_ (done_of HT_.out (by kernel_rfl)) ?_
   try go_wp2
   all_goals (refine bodyPost_ret (results_ct rfl _ _ gb640 40 #[.int .i64 t648, .int .i64 t649] (0, 0) _ rfl (bko gb640 (by rfl)) Tryd.underlying40 rfl (by kernel_rfl)) rfl ?_; exact ⟨by first | rfl | (simp [errW_none, errW_some] <;> rfl) | (simp [*, errW_none, errW_some] <;> rfl), bw w⟩)
  ·
   replace c8 := Bool.eq_false_iff.mpr c8
   subst c8
   rw [if_neg (show ¬ (false = true) by decide)] at H
   simp only [Option.some.injEq, Prod.mk.injEq] at H
   obtain ⟨rfl, rfl, rfl⟩ := H
   go_enter Tryd.func30, Tryd.ntmps30
   go_wp2_with (first | ((with_reducible refine gate_dst (N := 4) rfl ?_); refine bxE 4 24 #[.int .i64 a0_0, .int .i64 a0_1, .slice A0_2 l0_2.length c0_2] (by rfl) (by rfl) (by first | (go_simp; done) | (go_simp; rfl)) ?_; intro gb638 hg w34 hbox hb; have BK638 := Bk.mk (hbox); have GE638 := eB w hg; replace HB := bS w hb; clear hb hbox hg) | ((with_reducible refine gate_dst (N := 5) rfl ?_); refine bxE 5 47 #[.int .i64 a1_0, .int .i64 a1_1, .int .i64 a1_2, .int .i64 a1_3, .int .i64 a1_4, .int .i64 a1_5, .int .i64 a1_6, .int .i64 a1_7, .slice A1_8 l1_8.length c1_8] (by rfl) (by rfl) (by first | (go_simp; done) | (go_simp; rfl)) ?_; intro gb639 hg w35 hbox hb; have BK639 := Bk.mk (hbox); have GE639 := eB w hg; have NB638_639 := nB gb638 hg; replace BK638 := kB gb638 hb; replace HB := bS w hb; clear hb hbox hg) | ((with_reducible refine gate_dst (N := 8) rfl ?_); refine bxE 8 40 #[.int .i64 0, .int .i64 0] (by rfl) (by rfl) (by first | (go_simp; done) | (go_simp; rfl)) ?_; intro gb640 hg w36 hbox hb; have BK640 := Bk.mk (hbox); have GE640 := eB w hg; have NB638_640 := nB gb638 hg; have NB639_640 := nB gb639 hg; replace BK638 := kB gb638 hb; replace BK639 := kB gb639 hb; replace HB := bS w hb; clear hb hbox hg; obtain ⟨hnb37, hnc37⟩ := nn NB638_639; obtain ⟨hnb38, hnc38⟩ := nn NB638_640; obtain ⟨hcz39_0, hcz39_1, hcz39_2, hfz39_0, hfz39_1, hfz39_2⟩ := cz3 BK638; obtain ⟨hnb40, hnc40⟩ := nn NB639_640; obtain ⟨hcz41_0, hcz41_1, hcz41_2, hcz41_3, hcz41_4, hcz41_5, hcz41_6, hcz41_7, hcz41_8, hfz41_0, hfz41_1, hfz41_2, hfz41_3, hfz41_4, hfz41_5, hfz41_6, hfz41_7, hfz41_8⟩ := cz9 BK639) | ((with_reducible refine gate_callee (f := 83) rfl ?_); refine goesLM (some 17) rfl rfl Tryd.func83 (by kernel_rfl) rfl #[.agg #[.int .i64 a0_0, .int .i64 a0_1, .slice A0_2 l0_2.length c0_2], .agg #[.int .i64 a1_0, .int .i64 a1_1, .int .i64 a1_2, .int .i64 a1_3, .int .i64 a1_4, .int .i64 a1_5, .int .i64 a1_6, .int .i64 a1_7, .slice A1_8 l1_8.length c1_8], .int .i64 a2, .int .i64 a3] rfl (by rfl) ?_; (with_reducible refine (snowlineref01_weighed.calls k a0_0 a0_1 _ _ l0_2 a1_0 a1_1 a1_2 a1_3 a1_4 a1_5 a1_6 a1_7 _ _ l1_8 a2 a3 t641 _ ?side1 ?side2 ?side3 ?side4 A5.out).mono ?_); (case side1 => exact cP (Kd.C_below HR0_2.out HB.out)); (case side2 => exact HC0_2.out); (case side3 => exact cP (Kd.C_below HR1_8.out HB.out)); (case side4 => exact HC1_8.out); rintro e w42 ⟨rfl, hb⟩; refine ⟨_, rfl, ?_⟩; replace BK638 := kB gb638 hb; replace BK639 := kB gb639 hb; replace BK640 := kB gb640 hb; replace HB := bS w hb; (try clear hb); obtain ⟨hcz43_0, hcz43_1, hcz43_2, hfz43_0, hfz43_1, hfz43_2⟩ := cz3 BK638; obtain ⟨hcz44_0, hcz44_1, hcz44_2, hcz44_3, hcz44_4, hcz44_5, hcz44_6, hcz44_7, hcz44_8, hfz44_0, hfz44_1, hfz44_2, hfz44_3, hfz44_4, hfz44_5, hfz44_6, hfz44_7, hfz44_8⟩ := cz9 BK639) | ((with_reducible refine gate_callee (f := 84) rfl ?_); refine goesLM (some 26) rfl rfl Tryd.func84 (by kernel_rfl) rfl #[.agg #[.int .i64 a0_0, .int .i64 a0_1, .slice A0_2 l0_2.length c0_2], .agg #[.int .i64 a1_0, .int .i64 a1_1, .int .i64 a1_2, .int .i64 a1_3, .int .i64 a1_4, .int .i64 a1_5, .int .i64 a1_6, .int .i64 a1_7, .slice A1_8 l1_8.length c1_8], .int .i64 a3] rfl (by rfl) ?_; (with_reducible refine (snowlineref01_turns.calls k a0_0 a0_1 _ _ l0_2 a1_0 a1_1 a1_2 a1_3 a1_4 a1_5 a1_6 a1_7 _ _ l1_8 a3 t642 t643 false _ ?side1 ?side2 ?side3 ?side4 A7.out).mono ?_); (case side1 => exact cP (Kd.C_below HR0_2.out HB.out)); (case side2 => exact HC0_2.out); (case side3 => exact cP (Kd.C_below HR1_8.out HB.out)); (case side4 => exact HC1_8.out); rintro e w45 ⟨rfl, hb⟩; refine ⟨_, rfl, ?_⟩; replace BK638 := kB gb638 hb; replace BK639 := kB gb639 hb; replace BK640 := kB gb640 hb; replace HB := bS w hb; (try clear hb)) | ((with_reducible refine gate_dst (N := 11) rfl ?_); refine bxE 11 40 #[.int .i64 0, .int .i64 0] (by rfl) (by rfl) (by first | (go_simp; done) | (go_simp; rfl)) ?_; intro gb645 hg w46 hbox hb; have BK645 := Bk.mk (hbox); have GE645 := eB w hg; have NB638_645 := nB gb638 hg; have NB639_645 := nB gb639 hg; have NB640_645 := nB gb640 hg; replace BK638 := kB gb638 hb; replace BK639 := kB gb639 hb; replace BK640 := kB gb640 hb; replace HB := bS w hb; clear hb hbox hg; obtain ⟨hnc47, hnb47⟩ := nn NB638_645; obtain ⟨hnc48, hnb48⟩ := nn NB639_645; obtain ⟨hnc49, hnb49⟩ := nn NB640_645; obtain ⟨hcz50_0, hcz50_1, hfz50_0, hfz50_1⟩ := cz2 BK645; obtain ⟨hcz51_0, hcz51_1, hfz51_0, hfz51_1⟩ := cz2 BK640))
   all_goals (refine bodyPost_ret (results_ct rfl _ _ gb640 40 #[.int .i64 0, .int .i64 0] (0, 0) _ rfl (bko gb640 (by rfl)) Tryd.underlying40 rfl (by kernel_rfl)) rfl ?_; exact ⟨by first | rfl | (simp [errW_none, errW_some] <;> rfl) | (simp [*, errW_none, errW_some] <;> rfl), bw w⟩)
 ·
  rw [if_neg c6] at H
  have c6b0 : (t641 == 0) = false := beq_eq_false_iff_ne.mpr c6
  have c6b1 : (t641 != 0) = true := bne_iff_ne.mpr c6
  simp only [Option.some.injEq, Prod.mk.injEq] at H
  obtain ⟨rfl, rfl, rfl⟩ := H
  go_enter Tryd.func30, Tryd.ntmps30
  go_wp2_with (first | ((with_reducible refine gate_dst (N := 4) rfl ?_); refine bxE 4 24 #[.int .i64 a0_0, .int .i64 a0_1, .slice A0_2 l0_2.length c0_2] (by rfl) (by rfl) (by first | (go_simp; done) | (go_simp; rfl)) ?_; intro gb638 hg w52 hbox hb; have BK638 := Bk.mk (hbox); have GE638 := eB w hg; replace HB := bS w hb; clear hb hbox hg) | ((with_reducible refine gate_dst (N := 5) rfl ?_); refine bxE 5 47 #[.int .i64 a1_0, .int .i64 a1_1, .int .i64 a1_2, .int .i64 a1_3, .int .i64 a1_4, .int .i64 a1_5, .int .i64 a1_6, .int .i64 a1_7, .slice A1_8 l1_8.length c1_8] (by rfl) (by rfl) (by first | (go_simp; done) | (go_simp; rfl)) ?_; intro gb639 hg w53 hbox hb; have BK639 := Bk.mk (hbox); have GE639 := eB w hg; have NB638_639 := nB gb638 hg; replace BK638 := kB gb638 hb; replace HB := bS w hb; clear hb hbox hg) | ((with_reducible refine gate_dst (N := 8) rfl ?_); refine bxE 8 40 #[.int .i64 0, .int .i64 0] (by rfl) (by rfl) (by first | (go_simp; done) | (go_simp; rfl)) ?_; intro gb640 hg w54 hbox hb; have BK640 := Bk.mk (hbox); have GE640 := eB w hg; have NB638_640 := nB gb638 hg; have NB639_640 := nB gb639 hg; replace BK638 := kB gb638 hb; replace BK639 := kB gb639 hb; replace HB := bS w hb; clear hb hbox hg; obtain ⟨hnb55, hnc55⟩ := nn NB638_639; obtain ⟨hnb56, hnc56⟩ := nn NB638_640; obtain ⟨hcz57_0, hcz57_1, hcz57_2, hfz57_0, hfz57_1, hfz57_2⟩ := cz3 BK638; obtain ⟨hnb58, hnc58⟩ := nn NB639_640; obtain ⟨hcz59_0, hcz59_1, hcz59_2, hcz59_3, hcz59_4, hcz59_5, hcz59_6, hcz59_7, hcz59_8, hfz59_0, hfz59_1, hfz59_2, hfz59_3, hfz59_4, hfz59_5, hfz59_6, hfz59_7, hfz59_8⟩ := cz9 BK639) | ((with_reducible refine gate_callee (f := 83) rfl ?_); refine goesLM (some 17) rfl rfl Tryd.func83 (by kernel_rfl) rfl #[.agg #[.int .i64 a0_0, .int .i64 a0_1, .slice A0_2 l0_2.length c0_2], .agg #[.int .i64 a1_0, .int .i64 a1_1, .int .i64 a1_2, .int .i64 a1_3, .int .i64 a1_4, .int .i64 a1_5, .int .i64 a1_6, .int .i64 a1_7, .slice A1_8 l1_8.length c1_8], .int .i64 a2, .int .i64 a3] rfl (by rfl) ?_; (with_reducible refine (snowlineref01_weighed.calls k a0_0 a0_1 _ _ l0_2 a1_0 a1_1 a1_2 a1_3 a1_4 a1_5 a1_6 a1_7 _ _ l1_8 a2 a3 t641 _ ?side1 ?side2 ?side3 ?side4 A5.out).mono ?_); (case side1 => exact cP (Kd.C_below HR0_2.out HB.out)); (case side2 => exact HC0_2.out); (case side3 => exact cP (Kd.C_below HR1_8.out HB.out)); (case side4 => exact HC1_8.out); rintro e w60 ⟨rfl, hb⟩; refine ⟨_, rfl, ?_⟩; replace BK638 := kB gb638 hb; replace BK639 := kB gb639 hb; replace BK640 := kB gb640 hb; replace HB := bS w hb; (try clear hb); obtain ⟨hcz61_0, hcz61_1, hfz61_0, hfz61_1⟩ := cz2 BK640))
  all_goals (refine bodyPost_ret (results_ct rfl _ _ gb640 40 #[.int .i64 0, .int .i64 0] (0, 0) _ rfl (bko gb640 (by rfl)) Tryd.underlying40 rfl (by kernel_rfl)) rfl ?_; exact ⟨by first | rfl | (simp [errW_none, errW_some] <;> rfl) | (simp [*, errW_none, errW_some] <;> rfl), bw w⟩)
end Go.Proofs.YtapijkdgkajoeaaDoor.PF
end
section
namespace Go.Proofs.YtapijkdgkajoeaaDoor.PF
set_option linter.unusedSimpArgs false
open Go.RowKit Go.Proofs.YtapijkdgkajoeaaDoorW.PrintWords Go.Proofs.YtapijkdgkajoeaaDoorW.PrintMore
theorem Ev.shift {α : Type} {g : Nat → Option α} {r : α} (K : Nat) (h : Ev (fun k => g (k + K)) r) : Ev g r := by
  obtain ⟨N, h⟩ := h
  refine ⟨N + K, fun n hn => ?_⟩
  have h2 : g (n - K + K) = some r := h (n - K) (by omega)
  rwa [Nat.sub_add_cancel (by omega)] at h2
def LenOk (n : Int) : Prop := 0 ≤ n ∧ n ≤ 20000
instance (n : Int) : Decidable (LenOk n) := by unfold LenOk; infer_instance
theorem course_length_eq (n : Int) : course_length.f n = some (decide (LenOk n)) := by
  unfold course_length.f LenOk
  by_cases h : 0 ≤ n <;> simp [h]
theorem course_gram_eq (n : Int) : course_gram.f n = some (decide (DayOk n)) := by
  unfold course_gram.f DayOk
  by_cases h : 0 ≤ n <;> simp [h]
theorem ref_gram_eq (n : Int) : snowlineref01_gram.f n = some (decide (DayOk n)) := by
  unfold snowlineref01_gram.f DayOk
  by_cases h : 0 ≤ n <;> simp [h]
theorem w01 : wrap64 1 = 1 := w64 (by omega) (by omega)
theorem w12 : wrap64 2 = 2 := w64 (by omega) (by omega)
theorem w23 : wrap64 3 = 3 := w64 (by omega) (by omega)
theorem every_number3 (k : Nat) (a b c : Int) : course_every_at_number.f (k + 4) [a, b, c] = some (decide (NoOk a ∧ NoOk b ∧ NoOk c)) := by
  simp only [course_every_at_number.f, course_every_at_number.l0, course_number_eq, rd, List.length_cons, List.length_nil]
  by_cases ha : NoOk a <;> by_cases hb : NoOk b <;> by_cases hc : NoOk c <;> simp [ha, hb, hc, w01, w12, w23]
theorem every_day3 (k : Nat) (a b c : Int) : course_every_at_day.f (k + 4) [a, b, c] = some (decide (DayOk a ∧ DayOk b ∧ DayOk c)) := by
  simp only [course_every_at_day.f, course_every_at_day.l0, course_day_eq, rd, List.length_cons, List.length_nil]
  by_cases ha : DayOk a <;> by_cases hb : DayOk b <;> by_cases hc : DayOk c <;> simp [ha, hb, hc, w01, w12, w23]
theorem every_length3 (k : Nat) (a b c : Int) : course_every_at_length.f (k + 4) [a, b, c] = some (decide (LenOk a ∧ LenOk b ∧ LenOk c)) := by
  simp only [course_every_at_length.f, course_every_at_length.l0, course_length_eq, rd, List.length_cons, List.length_nil]
  by_cases ha : LenOk a <;> by_cases hb : LenOk b <;> by_cases hc : LenOk c <;> simp [ha, hb, hc, w01, w12, w23]
theorem every_gram2 (k : Nat) (a b : Int) : course_every_at_gram.f (k + 4) [a, b] = some (decide (DayOk a ∧ DayOk b)) := by
  simp only [course_every_at_gram.f, course_every_at_gram.l0, course_gram_eq, rd, List.length_cons, List.length_nil]
  by_cases ha : DayOk a <;> by_cases hb : DayOk b <;> simp [ha, hb, w01, w12]
abbrev at71 (l : List S71) (i : Nat) : S71 := l.getD i z71
theorem rd_at71 (l : List S71) (i : Nat) : rd_T71 l (i : Int) = at71 l i := by simp [rd_T71]
def OkK (x : S71) : Prop := LenOk x.f0 ∧ LenOk x.f1 ∧ LenOk x.f3 ∧ x.f1 + x.f3 ≤ x.f0 ∧ DayOk x.f2 ∧ DayOk x.f4
instance (x : S71) : Decidable (OkK x) := by unfold OkK; infer_instance
def OkKs (l : List S71) : Prop := ∀ i, i < l.length → OkK (at71 l i)
def OkH (s : S47) : Prop := (NoOk s.f0 ∧ NoOk s.f1 ∧ NoOk s.f4) ∧ (DayOk s.f2 ∧ DayOk s.f3 ∧ DayOk s.f7) ∧ DayOk s.f6 ∧ 1 ≤ s.f5 ∧ s.f5 ≤ 1000 ∧ 1 ≤ s.f8.length ∧ s.f8.length ≤ 32 ∧ OkKs s.f8
def ErrH (s : S47) (e : Int) : Prop := (¬ OkH s ∧ e = 12) ∨ (OkH s ∧ e = 0)
theorem ErrH.same {s : S47} {e e' : Int} (h : ErrH s e) (h' : ErrH s e') : e = e' := by
  rcases h with ⟨a, rfl⟩ | ⟨a, rfl⟩ <;> rcases h' with ⟨b, rfl⟩ | ⟨b, rfl⟩
  · rfl
  · exact absurd b a
  · exact absurd a b
  · rfl
theorem ErrH.zero {s : S47} {e : Int} (h : ErrH s e) (h0 : e = 0) : OkH s := by
  rcases h with ⟨_, rfl⟩ | ⟨a, _⟩
  · exact absurd h0 (by decide)
  · exact a
theorem stakes_loop (l : List S71) (hn : l.length ≤ 100) : (¬ OkKs l ∧ Ev (fun k => course_CheckSheet.l0 k l (l.length : Int) 0) 12) ∨ (OkKs l ∧ Ev (fun k => course_CheckSheet.l0 k l (l.length : Int) 0) 0) := by
  have step : ∀ k (i : Nat), i < l.length → course_CheckSheet.l0 (k + 1 + 4) l (l.length : Int) (i : Int) = if OkK (at71 l i) then course_CheckSheet.l0 (k + 4) l (l.length : Int) ((i : Int) + 1) else some 12 := by
    intro k i hi
    have hw : wrap64 ((i : Int) + 1) = (i : Int) + 1 := w64 (by omega) (by omega)
    have hk : k + 1 + 4 = (k + 4) + 1 := by omega
    rw [hk]
    simp only [course_CheckSheet.l0]
    rw [if_pos (by omega), if_pos (by omega), if_pos (by omega), rd_at71, every_length3, every_gram2, hw]
    simp only [Option.bind_some, decide_eq_true_eq]
    by_cases h : LenOk (at71 l i).f0 ∧ LenOk (at71 l i).f1 ∧ LenOk (at71 l i).f3
    · rw [if_pos h]
      obtain ⟨⟨a0, a1⟩, ⟨b0, b1⟩, c0, c1⟩ := h
      rw [w64 (x := (at71 l i).f1 + (at71 l i).f3) (by omega) (by omega)]
      by_cases hs : (at71 l i).f1 + (at71 l i).f3 > (at71 l i).f0
      · rw [if_pos hs, if_neg (fun hh => by have := hh.2.2.2.1; omega)]
      · rw [if_neg hs]
        by_cases hg : DayOk (at71 l i).f2 ∧ DayOk (at71 l i).f4
        · rw [if_pos hg, if_pos (show OkK (at71 l i) from ⟨⟨a0, a1⟩, ⟨b0, b1⟩, ⟨c0, c1⟩, by omega, hg.1, hg.2⟩)]
        · rw [if_neg hg, if_neg (fun hh => hg ⟨hh.2.2.2.2.1, hh.2.2.2.2.2⟩)]
    · rw [if_neg h, if_neg (fun hh => h ⟨hh.1, hh.2.1, hh.2.2.1⟩)]
  rcases search1 l.length (fun k i => course_CheckSheet.l0 (k + 4) l (l.length : Int) i) (fun i => ¬ OkK (at71 l i)) (fun _ => 12) 0
    (fun k i hi hb _ => by show course_CheckSheet.l0 (k + 1 + 4) l _ _ = _; rw [step k i hi, if_neg hb]) (fun k i hi hb _ => by show course_CheckSheet.l0 (k + 1 + 4) l _ _ = _; rw [step k i hi, if_pos (Classical.not_not.1 hb)])
    (fun k _ => by
      show course_CheckSheet.l0 ((k + 4) + 1) l _ _ = _
      simp only [course_CheckSheet.l0]
      rw [if_neg (by omega)]) with ⟨i, hi, hb, _, hev⟩ | ⟨hall, hev⟩
  · exact .inl ⟨fun h => hb (h i hi), Ev.shift 4 hev⟩
  · exact .inr ⟨fun i hi => Classical.not_not.1 (hall i hi), Ev.shift 4 hev⟩
theorem course_CheckSheet_eq (s : S47) (hn : s.f8.length ≤ 100) : ∃ e, ErrH s e ∧ Ev (fun k => course_CheckSheet.f k s.f0 s.f1 s.f2 s.f3 s.f4 s.f5 s.f6 s.f7 s.f8) e := by
  have bad : Ev (fun k => course_CheckSheet.j1 k true s.f0 s.f1 s.f2 s.f3 s.f4 s.f5 s.f6 s.f7 s.f8) 12 := Ev.step (fun k => by simp only [course_CheckSheet.j1]; rfl) (Ev.now 12)
  have badf : Ev (fun k => course_CheckSheet.j0 k false s.f0 s.f1 s.f2 s.f3 s.f4 s.f5 s.f6 s.f7 s.f8) 12 := Ev.step (fun k => by simp only [course_CheckSheet.j0]; rw [if_neg (by decide)]) bad
  suffices h : (¬ OkH s ∧ Ev (fun k => course_CheckSheet.f (k + 4) s.f0 s.f1 s.f2 s.f3 s.f4 s.f5 s.f6 s.f7 s.f8) 12) ∨ (OkH s ∧ Ev (fun k => course_CheckSheet.f (k + 4) s.f0 s.f1 s.f2 s.f3 s.f4 s.f5 s.f6 s.f7 s.f8) 0) by
    rcases h with ⟨a, b⟩ | ⟨a, b⟩
    · exact ⟨12, .inl ⟨a, rfl⟩, Ev.shift 4 b⟩
    · exact ⟨0, .inr ⟨a, rfl⟩, Ev.shift 4 b⟩
  have sh : ∀ {g : Nat → Option Int} {r : Int}, Ev g r → Ev (fun k => g (k + 4)) r := fun {g r} h => by
    obtain ⟨N, h⟩ := h
    exact ⟨N, fun n hn => h (n + 4) (by omega)⟩
  simp only [course_CheckSheet.f, every_number3, every_day3, course_gram_eq, Option.bind_some, decide_eq_true_eq]
  by_cases a : NoOk s.f0 ∧ NoOk s.f1 ∧ NoOk s.f4
  · simp only [if_pos a]
    by_cases b : DayOk s.f2 ∧ DayOk s.f3 ∧ DayOk s.f7
    · simp only [if_pos b]
      by_cases c : DayOk s.f6
      · simp only [decide_eq_true c]
        have j0t : ∀ {r : Int}, Ev (fun k => course_CheckSheet.j1 k (decide (s.f5 < 1 ∨ s.f5 > 1000 ∨ (s.f8.length : Int) < 1 ∨ (s.f8.length : Int) > 32)) s.f0 s.f1 s.f2 s.f3 s.f4 s.f5 s.f6 s.f7 s.f8) r → Ev (fun k => course_CheckSheet.j0 k true s.f0 s.f1 s.f2 s.f3 s.f4 s.f5 s.f6 s.f7 s.f8) r := by
          intro r h
          refine Ev.step (fun k => ?_) h
          simp only [course_CheckSheet.j0, if_true]
          by_cases d : s.f5 < 1
          · rw [if_pos d, decide_eq_true (.inl d)]
          · rw [if_neg d]
            by_cases e : s.f5 > 1000
            · rw [if_pos e, decide_eq_true (.inr (.inl e))]
            · rw [if_neg e]
              by_cases f : (s.f8.length : Int) < 1
              · rw [if_pos f, decide_eq_true (.inr (.inr (.inl f)))]
              · rw [if_neg f]
                congr 1
                rw [decide_eq_decide]
                omega
        by_cases d : s.f5 < 1 ∨ s.f5 > 1000 ∨ (s.f8.length : Int) < 1 ∨ (s.f8.length : Int) > 32
        · refine .inl ⟨fun h => by obtain ⟨_, _, _, h1, h2, h3, h4, _⟩ := h; omega, sh (j0t ?_)⟩
          rw [decide_eq_true d]
          exact bad
        · rcases stakes_loop s.f8 hn with ⟨h, hev⟩ | ⟨h, hev⟩
          · refine .inl ⟨fun hh => h hh.2.2.2.2.2.2.2, sh (j0t ?_)⟩
            rw [decide_eq_false d]
            exact Ev.step (fun k => by simp only [course_CheckSheet.j1]; rw [if_neg (by decide)]) hev
          · refine .inr ⟨⟨a, b, c, by omega, by omega, by omega, by omega, h⟩, sh (j0t ?_)⟩
            rw [decide_eq_false d]
            exact Ev.step (fun k => by simp only [course_CheckSheet.j1]; rw [if_neg (by decide)]) hev
      · simp only [decide_eq_false c]
        exact .inl ⟨fun h => c h.2.2.1, sh badf⟩
    · simp only [if_neg b]
      exact .inl ⟨fun h => b h.2.1, sh badf⟩
  · simp only [if_neg a]
    exact .inl ⟨fun h => a h.1, sh badf⟩
theorem ref_stake_eq (x : S71) : snowlineref01_stake.f x.f0 x.f1 x.f2 x.f3 x.f4 = some (decide (OkK x)) := by
  simp only [snowlineref01_stake.f, ref_gram_eq, Option.bind_some, decide_eq_true_eq]
  have no : ∀ {b : Prop} [Decidable b] {c : Prop} [Decidable c], (if b then (if c then (some false) else (some false)) else (some false) : Option Bool) = some false := by
    intro b _ c _
    split
    · split <;> rfl
    · rfl
  simp only [no]
  by_cases h : OkK x
  · obtain ⟨⟨a0, a1⟩, ⟨b0, b1⟩, ⟨c0, c1⟩, d, e, f⟩ := id h
    rw [if_pos a0, if_pos a1, if_pos b0, if_pos (by omega), if_pos c0, if_pos e, if_pos f, if_pos (by omega), w64 (by omega) (by omega), decide_eq_true d, decide_eq_true h]
  · rw [decide_eq_false h]
    by_cases a0 : x.f0 ≥ 0
    · rw [if_pos a0]
      by_cases a1 : x.f0 ≤ 20000
      · rw [if_pos a1]
        by_cases b0 : x.f1 ≥ 0
        · rw [if_pos b0]
          by_cases b1 : x.f1 ≤ x.f0
          · rw [if_pos b1]
            by_cases c0 : x.f3 ≥ 0
            · rw [if_pos c0]
              by_cases e : DayOk x.f2
              · rw [if_pos e]
                by_cases f : DayOk x.f4
                · rw [if_pos f]
                  by_cases c1 : x.f3 ≤ x.f0
                  · rw [if_pos c1, w64 (by omega) (by omega), decide_eq_false (fun d => h ⟨⟨a0, a1⟩, ⟨b0, by omega⟩, ⟨c0, by omega⟩, d, e, f⟩)]
                  · rw [if_neg c1]
                · rw [if_neg f]
              · rw [if_neg e]
            · rw [if_neg c0]
          · rw [if_neg b1]
        · rw [if_neg b0]
      · rw [if_neg a1]
    · rw [if_neg a0]
theorem ref_stakes_loop (s : S47) (hn : s.f8.length ≤ 100) : (¬ OkKs s.f8 ∧ Ev (fun k => snowlineref01_CheckSheet.l0 k 0 s.f0 s.f1 s.f2 s.f3 s.f4 s.f5 s.f6 s.f7 s.f8) 12) ∨ (OkKs s.f8 ∧ Ev (fun k => snowlineref01_CheckSheet.l0 k 0 s.f0 s.f1 s.f2 s.f3 s.f4 s.f5 s.f6 s.f7 s.f8) 0) := by
  have step : ∀ k (i : Nat), i < s.f8.length → snowlineref01_CheckSheet.l0 (k + 1) (i : Int) s.f0 s.f1 s.f2 s.f3 s.f4 s.f5 s.f6 s.f7 s.f8 = if OkK (at71 s.f8 i) then snowlineref01_CheckSheet.l0 k ((i : Int) + 1) s.f0 s.f1 s.f2 s.f3 s.f4 s.f5 s.f6 s.f7 s.f8 else some 12 := by
    intro k i hi
    have hw : wrap64 ((i : Int) + 1) = (i : Int) + 1 := w64 (by omega) (by omega)
    simp only [snowlineref01_CheckSheet.l0]
    rw [if_pos (by omega), if_pos (by omega), rd_at71, ref_stake_eq, hw]
    simp only [Option.bind_some, decide_eq_true_eq]
  rcases search1 s.f8.length (fun k i => snowlineref01_CheckSheet.l0 k i s.f0 s.f1 s.f2 s.f3 s.f4 s.f5 s.f6 s.f7 s.f8) (fun i => ¬ OkK (at71 s.f8 i)) (fun _ => 12) 0
    (fun k i hi hb _ => by rw [step k i hi, if_neg hb]) (fun k i hi hb _ => by rw [step k i hi, if_pos (Classical.not_not.1 hb)])
    (fun k _ => by simp only [snowlineref01_CheckSheet.l0]; rw [if_neg (by omega)]) with ⟨i, hi, hb, _, hev⟩ | ⟨hall, hev⟩
  · exact .inl ⟨fun h => hb (h i hi), hev⟩
  · exact .inr ⟨fun i hi => Classical.not_not.1 (hall i hi), hev⟩
theorem ref_CheckSheet_eq (s : S47) (hn : s.f8.length ≤ 100) : ∃ e, ErrH s e ∧ Ev (fun k => snowlineref01_CheckSheet.f k s.f0 s.f1 s.f2 s.f3 s.f4 s.f5 s.f6 s.f7 s.f8) e := by
  have bad : Ev (fun k => snowlineref01_CheckSheet.j0 k true s.f0 s.f1 s.f2 s.f3 s.f4 s.f5 s.f6 s.f7 s.f8) 12 := Ev.step (fun k => by simp only [snowlineref01_CheckSheet.j0]; rfl) (Ev.now 12)
  suffices h : (¬ OkH s ∧ Ev (fun k => snowlineref01_CheckSheet.f k s.f0 s.f1 s.f2 s.f3 s.f4 s.f5 s.f6 s.f7 s.f8) 12) ∨ (OkH s ∧ Ev (fun k => snowlineref01_CheckSheet.f k s.f0 s.f1 s.f2 s.f3 s.f4 s.f5 s.f6 s.f7 s.f8) 0) by
    rcases h with ⟨a, b⟩ | ⟨a, b⟩
    · exact ⟨12, .inl ⟨a, rfl⟩, b⟩
    · exact ⟨0, .inr ⟨a, rfl⟩, b⟩
  simp only [snowlineref01_CheckSheet.f, ref_Number_eq, ref_Day_eq, ref_gram_eq, Option.bind_some, decide_eq_true_eq]
  by_cases a0 : NoOk s.f0
  · by_cases a1 : NoOk s.f1
    · by_cases a2 : NoOk s.f4
      · by_cases b0 : DayOk s.f2
        · by_cases b1 : DayOk s.f3
          · by_cases b2 : DayOk s.f7
            · by_cases c : DayOk s.f6
              · simp only [if_pos a0, if_pos a1, if_pos a2, if_pos b0, if_pos b1, if_pos b2, if_pos c]
                by_cases d : s.f5 < 1
                · simp only [if_pos d]
                  exact .inl ⟨fun h => by have := h.2.2.2.1; omega, bad⟩
                · by_cases e : s.f5 > 1000
                  · simp only [if_neg d, if_pos e]
                    exact .inl ⟨fun h => by have := h.2.2.2.2.1; omega, bad⟩
                  · by_cases f : (s.f8.length : Int) < 1
                    · simp only [if_neg d, if_neg e, if_pos f]
                      exact .inl ⟨fun h => by have := h.2.2.2.2.2.1; omega, bad⟩
                    · simp only [if_neg d, if_neg e, if_neg f]
                      by_cases g : (s.f8.length : Int) > 32
                      · simp only [decide_eq_true g]
                        exact .inl ⟨fun h => by have := h.2.2.2.2.2.2.1; omega, bad⟩
                      · simp only [decide_eq_false g]
                        rcases ref_stakes_loop s hn with ⟨h, hev⟩ | ⟨h, hev⟩
                        · exact .inl ⟨fun hh => h hh.2.2.2.2.2.2.2, Ev.step (fun k => by simp only [snowlineref01_CheckSheet.j0]; rw [if_neg (by decide)]) hev⟩
                        · exact .inr ⟨⟨⟨a0, a1, a2⟩, ⟨b0, b1, b2⟩, c, by omega, by omega, by omega, by omega, h⟩, Ev.step (fun k => by simp only [snowlineref01_CheckSheet.j0]; rw [if_neg (by decide)]) hev⟩
              · simp only [if_pos a0, if_pos a1, if_pos a2, if_pos b0, if_pos b1, if_pos b2, if_neg c]
                exact .inl ⟨fun h => c h.2.2.1, bad⟩
            · simp only [if_pos a0, if_pos a1, if_pos a2, if_pos b0, if_pos b1, if_neg b2]
              exact .inl ⟨fun h => b2 h.2.1.2.2, bad⟩
          · simp only [if_pos a0, if_pos a1, if_pos a2, if_pos b0, if_neg b1]
            exact .inl ⟨fun h => b1 h.2.1.2.1, bad⟩
        · simp only [if_pos a0, if_pos a1, if_pos a2, if_neg b0]
          exact .inl ⟨fun h => b0 h.2.1.1, bad⟩
      · simp only [if_pos a0, if_pos a1, if_neg a2]
        exact .inl ⟨fun h => a2 h.1.2.2, bad⟩
    · simp only [if_pos a0, if_neg a1]
      exact .inl ⟨fun h => a1 h.1.2.1, bad⟩
  · simp only [if_neg a0]
    exact .inl ⟨fun h => a0 h.1.1, bad⟩
end Go.Proofs.YtapijkdgkajoeaaDoor.PF
end
section
namespace Go.Proofs.YtapijkdgkajoeaaDoor.PF
open Go.RowKit Go.Proofs.YtapijkdgkajoeaaDoorW.PrintWords Go.Proofs.YtapijkdgkajoeaaDoorW.PrintMore
theorem turnOf_in {no rate : Int} {l : List S26} {a b known : Int} (hs : OkS no rate l) (ha : DayOk a) (hb : DayOk b) :
    -2097152 ≤ (turnOf rate l a b known).1 ∧ (turnOf rate l a b known).1 ≤ 2097152 ∧ -2097152 ≤ (turnOf rate l a b known).2 ∧ (turnOf rate l a b known).2 ≤ 2097152 := by
  obtain ⟨⟨p1, p2, p3, p4⟩, _⟩ := course_drift_eq no rate l a known hs ha
  obtain ⟨⟨q1, q2, q3, q4⟩, _⟩ := course_drift_eq no rate l b known hs hb
  have d := dist_range ha hb
  have m := mulb hs.2.1 hs.2.2.1 d.1 d.2
  unfold turnOf mx mn
  generalize rate * dist a b = q at *
  dsimp only
  refine ⟨?_, ?_, ?_, ?_⟩ <;> split <;> omega
def hiOf (s : S47) (h : Int) : Int := (List.range s.f8.length).foldl (fun h i => mn h ((at71 s.f8 i).f2 - s.f6)) h
def turnsOf (rate : Int) (l : List S26) (s : S47) (known : Int) : Int × Int := ((turnOf rate l s.f7 s.f2 known).1, hiOf s (turnOf rate l s.f7 s.f2 known).2)
def HIn (s : S47) (i : Nat) (h : Int) : Prop := (-2097152 ≤ h ∧ h ≤ 2097152) ∧ ∀ j, j < i → h ≤ (at71 s.f8 j).f2 - s.f6
theorem hin_step {s : S47} {i : Nat} {h : Int} (hs : OkH s) (hi : i < s.f8.length) (hh : HIn s i h) : HIn s (i + 1) (mn h ((at71 s.f8 i).f2 - s.f6)) := by
  obtain ⟨_, _, ⟨c0, c1⟩, _, _, _, _, hk⟩ := hs
  obtain ⟨_, _, _, _, ⟨e0, e1⟩, _⟩ := hk i hi
  obtain ⟨⟨h0, h1⟩, h2⟩ := hh
  unfold mn
  refine ⟨?_, fun j hj => ?_⟩
  · split <;> omega
  · rcases Nat.lt_or_ge j i with hji | hji
    · have := h2 j hji
      split <;> omega
    · obtain rfl : j = i := by omega
      split <;> omega
theorem course_turns_eq (no rate : Int) (l : List S26) (s : S47) (known : Int) (hS : OkS no rate l) (hs : OkH s) :
    HIn s s.f8.length (turnsOf rate l s known).2 ∧ (-2097152 ≤ (turnsOf rate l s known).1 ∧ (turnsOf rate l s known).1 ≤ 2097152) ∧
    Ev (fun k => course_turns.f k no rate l s.f0 s.f1 s.f2 s.f3 s.f4 s.f5 s.f6 s.f7 s.f8 known) (if (turnsOf rate l s known).1 > (turnsOf rate l s known).2 then (0, 0, 13) else ((turnsOf rate l s known).1, (turnsOf rate l s known).2, 0)) := by
  obtain ⟨t0, t1, t2, t3⟩ := turnOf_in (known := known) hS hs.2.1.2.2 hs.2.1.1
  obtain ⟨t, hI, ht, hev⟩ := fold1 s.f8.length (fun k i (h : Int) => course_turns.l0 k s.f8 (s.f8.length : Int) i s.f0 s.f1 s.f2 s.f3 s.f4 s.f5 s.f6 s.f7 s.f8 (turnOf rate l s.f7 s.f2 known).1 h) (fun i h => mn h ((at71 s.f8 i).f2 - s.f6)) (fun i h => HIn s i h)
    (fun h => if (turnOf rate l s.f7 s.f2 known).1 > h then ((0 : Int), (0 : Int), (13 : Int)) else ((turnOf rate l s.f7 s.f2 known).1, h, 0))
    (fun i h hi hh => hin_step hs hi hh)
    (fun k i h hi hh => by
      have hl := hs.2.2.2.2.2.2.1
      have hw : wrap64 ((i : Int) + 1) = (i : Int) + 1 := w64 (by omega) (by omega)
      obtain ⟨_, _, ⟨c0, c1⟩, _, _, _, _, hk⟩ := hs
      obtain ⟨_, _, _, _, ⟨e0, e1⟩, _⟩ := hk i hi
      simp only [course_turns.l0]
      rw [if_pos (by omega), if_pos (by omega), if_pos (by omega), rd_at71, hw, w64 (x := (at71 s.f8 i).f2 - s.f6) (by omega) (by omega)])
    (fun k h _ => by
      simp only [course_turns.l0]
      rw [if_neg (by omega)]
      by_cases c : (turnOf rate l s.f7 s.f2 known).1 > h
      · rw [if_pos c, if_pos c]
      · rw [if_neg c, if_neg c]) (turnOf rate l s.f7 s.f2 known).2 ⟨⟨t2, t3⟩, fun j hj => absurd hj (by omega)⟩
  have e : t = (turnsOf rate l s known).2 := ht
  subst e
  refine ⟨hI, ⟨t0, t1⟩, ?_⟩
  unfold course_turns.f
  exact Ev.bind (course_turn_eq no rate l s.f7 s.f2 known hS hs.2.1.2.2 hs.2.1.1) hev
theorem ref_turns_eq (no rate : Int) (l : List S26) (s : S47) (known : Int) (hS : OkS no rate l) (hs : OkH s) :
    Ev (fun k => snowlineref01_turns.f k no rate l s.f0 s.f1 s.f2 s.f3 s.f4 s.f5 s.f6 s.f7 s.f8 known) ((turnsOf rate l s known).1, (turnsOf rate l s known).2, decide ((turnsOf rate l s known).1 ≤ (turnsOf rate l s known).2)) := by
  obtain ⟨t0, t1, t2, t3⟩ := turnOf_in (known := known) hS hs.2.1.2.2 hs.2.1.1
  obtain ⟨t, hI, ht, hev⟩ := fold1 s.f8.length (fun k i (h : Int) => snowlineref01_turns.l0 k i s.f0 s.f1 s.f2 s.f3 s.f4 s.f5 s.f6 s.f7 s.f8 (turnOf rate l s.f7 s.f2 known).1 h) (fun i h => mn h ((at71 s.f8 i).f2 - s.f6)) (fun i h => HIn s i h)
    (fun h => ((turnOf rate l s.f7 s.f2 known).1, h, decide ((turnOf rate l s.f7 s.f2 known).1 ≤ h)))
    (fun i h hi hh => hin_step hs hi hh)
    (fun k i h hi hh => by
      have hl := hs.2.2.2.2.2.2.1
      have hw : wrap64 ((i : Int) + 1) = (i : Int) + 1 := w64 (by omega) (by omega)
      obtain ⟨_, _, ⟨c0, c1⟩, _, _, _, _, hk⟩ := hs
      obtain ⟨_, _, _, _, ⟨e0, e1⟩, _⟩ := hk i hi
      simp only [snowlineref01_turns.l0]
      rw [if_pos (by omega), if_pos (by omega), rd_at71, hw, w64 (x := (at71 s.f8 i).f2 - s.f6) (by omega) (by omega)])
    (fun k h _ => by
      simp only [snowlineref01_turns.l0]
      rw [if_neg (by omega)]) (turnOf rate l s.f7 s.f2 known).2 ⟨⟨t2, t3⟩, fun j hj => absurd hj (by omega)⟩
  have e : t = (turnsOf rate l s known).2 := ht
  subst e
  unfold snowlineref01_turns.f
  exact Ev.bind (ref_turn_eq no rate l s.f7 s.f2 known hS hs.2.1.2.2 hs.2.1.1) hev
def weighE (e1 e2 no : Int) (s : S47) (i known : Int) : Int := if e1 = 0 then (if e2 = 0 then (if no = s.f4 ∧ DayOk known ∧ 0 ≤ i ∧ i < s.f8.length then 0 else 1) else e2) else e1
theorem weighE_zero {e1 e2 no : Int} {s : S47} {i known : Int} (h : weighE e1 e2 no s i known = 0) : e1 = 0 ∧ e2 = 0 ∧ no = s.f4 ∧ DayOk known ∧ 0 ≤ i ∧ i < s.f8.length := by
  unfold weighE at h
  split at h
  · rename_i h1
    split at h
    · rename_i h2
      split at h
      · rename_i h3
        exact ⟨h1, h2, h3⟩
      · omega
    · rename_i h2
      exact absurd h h2
  · rename_i h1
    exact absurd h h1
def sheetE (e1 e2 no : Int) (s : S47) (known : Int) : Int := if e1 = 0 then (if e2 = 0 then (if no = s.f4 ∧ DayOk known then 0 else 1) else e2) else e1
theorem course_stakeOf_eq (no rate : Int) (l : List S26) (s : S47) (i known : Int) (hn : l.length ≤ 100) (hm : s.f8.length ≤ 100) :
    ∃ e1 e2, ErrS no rate l e1 ∧ ErrH s e2 ∧ Ev (fun k => course_stakeOf.f k no rate l s.f0 s.f1 s.f2 s.f3 s.f4 s.f5 s.f6 s.f7 s.f8 i known) (weighE e1 e2 no s i known) := by
  obtain ⟨e1, h1, v1⟩ := course_CheckScale_eq no rate l hn
  obtain ⟨e2, h2, v2⟩ := course_CheckSheet_eq s hm
  refine ⟨e1, e2, h1, h2, ?_⟩
  have hO : Ev (fun k => course_sheetOf.f k no rate l s.f0 s.f1 s.f2 s.f3 s.f4 s.f5 s.f6 s.f7 s.f8 known) (sheetE e1 e2 no s known) := by
    unfold course_sheetOf.f
    refine Ev.bind v1 ?_
    by_cases a : e1 = 0
    · refine Ev.congr (fun k => if_pos a) (Ev.bind v2 ?_)
      by_cases b : e2 = 0
      · by_cases c : no = s.f4
        · by_cases d : DayOk known
          · have hz : sheetE e1 e2 no s known = 0 := by unfold sheetE; rw [if_pos a, if_pos b, if_pos ⟨c, d⟩]
            rw [hz]
            exact Ev.congr (fun k => (if_pos b).trans (if_pos c)) (Ev.bindc (course_day_eq known) (Ev.const (if_pos (decide_eq_true d))))
          · have hz : sheetE e1 e2 no s known = 1 := by unfold sheetE; rw [if_pos a, if_pos b, if_neg (fun h => d h.2)]
            rw [hz]
            exact Ev.congr (fun k => (if_pos b).trans (if_pos c)) (Ev.bindc (course_day_eq known) (Ev.const (if_neg (by simp [d]))))
        · have hz : sheetE e1 e2 no s known = 1 := by unfold sheetE; rw [if_pos a, if_pos b, if_neg (fun h => c h.1)]
          rw [hz]
          exact Ev.congr (fun k => (if_pos b).trans (if_neg c)) (Ev.now 1)
      · have hz : sheetE e1 e2 no s known = e2 := by unfold sheetE; rw [if_pos a, if_neg b]
        rw [hz]
        exact Ev.congr (fun k => if_neg b) (Ev.now e2)
    · have hz : sheetE e1 e2 no s known = e1 := by unfold sheetE; rw [if_neg a]
      rw [hz]
      exact Ev.congr (fun k => if_neg a) (Ev.now e1)
  unfold course_stakeOf.f
  refine Ev.bind hO (Ev.const ?_)
  unfold weighE sheetE
  by_cases a : e1 = 0
  · rw [if_pos a, if_pos a]
    by_cases b : e2 = 0
    · rw [if_pos b, if_pos b]
      by_cases c : no = s.f4 ∧ DayOk known
      · rw [if_pos c, if_pos rfl]
        by_cases d : i < 0
        · rw [if_pos d, if_neg (fun h => by have := h.2.2.1; omega)]
        · rw [if_neg d]
          by_cases e : i ≥ (s.f8.length : Int)
          · rw [if_pos e, if_neg (fun h => by have := h.2.2.2; omega)]
          · rw [if_neg e, if_pos ⟨c.1, c.2, by omega, by omega⟩]
      · rw [if_neg c, if_neg (by decide), if_neg (fun h => c ⟨h.1, h.2.1⟩)]
    · rw [if_neg b, if_neg b, if_neg b]
  · rw [if_neg a, if_neg a, if_neg a]
theorem ref_weighed_eq (no rate : Int) (l : List S26) (s : S47) (i known : Int) (hn : l.length ≤ 100) (hm : s.f8.length ≤ 100) :
    ∃ e1 e2, ErrS no rate l e1 ∧ ErrH s e2 ∧ Ev (fun k => snowlineref01_weighed.f k no rate l s.f0 s.f1 s.f2 s.f3 s.f4 s.f5 s.f6 s.f7 s.f8 i known) (weighE e1 e2 no s i known) := by
  obtain ⟨e1, h1, v1⟩ := ref_CheckScale_eq no rate l hn
  obtain ⟨e2, h2, v2⟩ := ref_CheckSheet_eq s hm
  refine ⟨e1, e2, h1, h2, ?_⟩
  unfold snowlineref01_weighed.f
  refine Ev.bind v1 ?_
  by_cases a : e1 = 0
  · refine Ev.congr (fun k => if_pos a) (Ev.bind v2 ?_)
    by_cases b : e2 = 0
    · have hz : weighE e1 e2 no s i known = if no = s.f4 ∧ DayOk known ∧ 0 ≤ i ∧ i < s.f8.length then 0 else 1 := by unfold weighE; rw [if_pos a, if_pos b]
      rw [hz]
      refine Ev.congr (fun k => if_pos b) (Ev.bindc (ref_Day_eq known) (Ev.const ?_))
      simp only [decide_eq_true_eq]
      by_cases c : DayOk known
      · rw [if_pos c]
        by_cases d : no = s.f4
        · rw [if_pos d]
          by_cases e : i < 0
          · rw [if_pos e, if_neg (fun h => by have := h.2.2.1; omega)]
          · rw [if_neg e]
            by_cases f : i ≥ (s.f8.length : Int)
            · rw [if_pos f, if_neg (fun h => by have := h.2.2.2; omega)]
            · rw [if_neg f, if_pos ⟨d, c, by omega, by omega⟩]
        · rw [if_neg d, if_neg (fun h => d h.1)]
      · rw [if_neg c, if_neg (fun h => c h.2.1)]
    · have hz : weighE e1 e2 no s i known = e2 := by unfold weighE; rw [if_pos a, if_neg b]
      rw [hz]
      exact Ev.congr (fun k => if_neg b) (Ev.now e2)
  · have hz : weighE e1 e2 no s i known = e1 := by unfold weighE; rw [if_neg a]
    rw [hz]
    exact Ev.congr (fun k => if_neg a) (Ev.now e1)
def lookR (w : Int) (T : Int × Int) : Int × Int × Int := if w = 0 then (if T.1 > T.2 then (0, 0, 13) else (T.1, T.2, 0)) else (0, 0, w)
theorem course_look_eq (no rate : Int) (l : List S26) (s : S47) (i known : Int) (hn : l.length ≤ 100) (hm : s.f8.length ≤ 100) :
    ∃ e1 e2, ErrS no rate l e1 ∧ ErrH s e2 ∧ Ev (fun k => course_look.f k no rate l s.f0 s.f1 s.f2 s.f3 s.f4 s.f5 s.f6 s.f7 s.f8 i known) (lookR (weighE e1 e2 no s i known) (turnsOf rate l s known)) := by
  obtain ⟨e1, e2, h1, h2, v⟩ := course_stakeOf_eq no rate l s i known hn hm
  refine ⟨e1, e2, h1, h2, ?_⟩
  unfold course_look.f lookR
  refine Ev.bind v ?_
  by_cases a : weighE e1 e2 no s i known = 0
  · obtain ⟨z1, z2, _⟩ := weighE_zero a
    rw [if_pos a]
    exact Ev.congr (fun k => if_pos a) (Ev.bind (course_turns_eq no rate l s known (errS_ok h1 z1) (h2.zero z2)).2.2 (Ev.now _))
  · rw [if_neg a]
    exact Ev.congr (fun k => if_neg a) (Ev.now _)
def coreOf (s : S47) (k : S71) (T : Int × Int) : Int × Int := (mx 0 (k.f2 - s.f6 - T.2 - k.f4), k.f2 - s.f6 - T.1)
theorem toNat_cast {i : Int} (h : 0 ≤ i) : ((i.toNat : Nat) : Int) = i := by omega
theorem core_words {s : S47} {k : S71} {T : Int × Int} (hs : OkH s) (hk : OkK k) (h1 : -2097152 ≤ T.1 ∧ T.1 ≤ 2097152) (h2 : -2097152 ≤ T.2 ∧ T.2 ≤ 2097152) :
    mx 0 (wrap64 (wrap64 (wrap64 (k.f2 - s.f6) - T.2) - k.f4)) = (coreOf s k T).1 ∧ wrap64 (wrap64 (k.f2 - s.f6) - T.1) = (coreOf s k T).2 := by
  obtain ⟨_, _, ⟨c0, c1⟩, _⟩ := hs
  obtain ⟨_, _, _, _, ⟨e0, e1⟩, ⟨f0, f1⟩⟩ := hk
  rw [w64 (x := k.f2 - s.f6) (by omega) (by omega), w64 (x := k.f2 - s.f6 - T.2) (by omega) (by omega), w64 (x := k.f2 - s.f6 - T.2 - k.f4) (by omega) (by omega), w64 (x := k.f2 - s.f6 - T.1) (by omega) (by omega)]
  exact ⟨rfl, rfl⟩
theorem core_in {s : S47} {k : S71} {T : Int × Int} (hs : OkH s) (hk : OkK k) (h1 : -2097152 ≤ T.1 ∧ T.1 ≤ 2097152) (h2 : -2097152 ≤ T.2 ∧ T.2 ≤ 2097152) (hT : T.1 ≤ T.2) (hle : T.2 ≤ k.f2 - s.f6) :
    0 ≤ (coreOf s k T).1 ∧ (coreOf s k T).1 ≤ 3145728 ∧ 0 ≤ (coreOf s k T).2 ∧ (coreOf s k T).2 ≤ 3145728 := by
  obtain ⟨_, _, ⟨c0, c1⟩, _⟩ := hs
  obtain ⟨_, _, _, _, ⟨e0, e1⟩, ⟨f0, f1⟩⟩ := hk
  unfold coreOf mx
  dsimp only
  refine ⟨?_, ?_, by omega, by omega⟩ <;> split <;> omega
theorem lost_in {s : S47} {k : S71} (hs : OkH s) (hk : OkK k) : 0 ≤ k.f3 * s.f5 ∧ k.f3 * s.f5 ≤ 20000000 := by
  obtain ⟨_, _, _, m0, m1, _⟩ := hs
  obtain ⟨_, _, ⟨c0, c1⟩, _⟩ := hk
  refine ⟨Int.mul_nonneg c0 (by omega), ?_⟩
  have a : k.f3 * s.f5 ≤ 20000 * s.f5 := Int.mul_le_mul_of_nonneg_right c1 (by omega)
  omega
theorem stake_at {s : S47} {i : Int} (hs : OkH s) (h0 : 0 ≤ i) (h1 : i < s.f8.length) : OkK (rd_T71 s.f8 i) := by
  have := hs.2.2.2.2.2.2.2 i.toNat (by omega)
  rwa [← rd_at71, toNat_cast h0] at this
theorem turn_at {s : S47} {h i : Int} (hh : HIn s s.f8.length h) (h0 : 0 ≤ i) (h1 : i < s.f8.length) : h ≤ (rd_T71 s.f8 i).f2 - s.f6 := by
  have := hh.2 i.toNat (by omega)
  rwa [← rd_at71, toNat_cast h0] at this
def coreR (w : Int) (s : S47) (i : Int) (T : Int × Int) : Int × Int × Int := if w = 0 then (if T.1 > T.2 then (0, 0, 13) else ((coreOf s (rd_T71 s.f8 i) T).1, (coreOf s (rd_T71 s.f8 i) T).2, 0)) else (0, 0, w)
theorem course_Core_eq (no rate : Int) (l : List S26) (s : S47) (i known : Int) (hn : l.length ≤ 100) (hm : s.f8.length ≤ 100) :
    ∃ e1 e2, ErrS no rate l e1 ∧ ErrH s e2 ∧ Ev (fun k => course_Core.f k no rate l s.f0 s.f1 s.f2 s.f3 s.f4 s.f5 s.f6 s.f7 s.f8 i known) (coreR (weighE e1 e2 no s i known) s i (turnsOf rate l s known)) := by
  obtain ⟨e1, e2, h1, h2, v⟩ := course_look_eq no rate l s i known hn hm
  refine ⟨e1, e2, h1, h2, ?_⟩
  unfold course_Core.f
  refine Ev.bind v (Ev.const ?_)
  unfold lookR coreR
  by_cases a : weighE e1 e2 no s i known = 0
  · obtain ⟨z1, z2, _, _, i0, i1⟩ := weighE_zero a
    obtain ⟨tI, tB, _⟩ := course_turns_eq no rate l s known (errS_ok h1 z1) (h2.zero z2)
    simp only [if_pos a]
    by_cases b : (turnsOf rate l s known).1 > (turnsOf rate l s known).2
    · simp only [if_pos b]
      rw [if_neg (by decide)]
    · simp only [if_neg b]
      obtain ⟨c1, c2⟩ := core_words (h2.zero z2) (stake_at (h2.zero z2) i0 i1) tB tI.1
      rw [if_pos trivial, if_pos i0, if_pos i1]
      simp only [course_core.f, Option.bind_some, c1, c2]
  · simp only [if_neg a]
theorem ref_Core_eq (no rate : Int) (l : List S26) (s : S47) (i known : Int) (hn : l.length ≤ 100) (hm : s.f8.length ≤ 100) :
    ∃ e1 e2, ErrS no rate l e1 ∧ ErrH s e2 ∧ Ev (fun k => snowlineref01_Core.f k no rate l s.f0 s.f1 s.f2 s.f3 s.f4 s.f5 s.f6 s.f7 s.f8 i known) (coreR (weighE e1 e2 no s i known) s i (turnsOf rate l s known)) := by
  obtain ⟨e1, e2, h1, h2, v⟩ := ref_weighed_eq no rate l s i known hn hm
  refine ⟨e1, e2, h1, h2, ?_⟩
  unfold snowlineref01_Core.f coreR
  refine Ev.bind v ?_
  by_cases a : weighE e1 e2 no s i known = 0
  · obtain ⟨z1, z2, _, _, i0, i1⟩ := weighE_zero a
    obtain ⟨tI, tB, _⟩ := course_turns_eq no rate l s known (errS_ok h1 z1) (h2.zero z2)
    rw [if_pos a]
    refine Ev.congr (fun k => if_pos a) (Ev.bind (ref_turns_eq no rate l s known (errS_ok h1 z1) (h2.zero z2)) (Ev.const ?_))
    by_cases b : (turnsOf rate l s known).1 > (turnsOf rate l s known).2
    · rw [if_pos b]
      exact if_neg (by simp; omega)
    · rw [if_neg b]
      obtain ⟨c1, c2⟩ := core_words (h2.zero z2) (stake_at (h2.zero z2) i0 i1) tB tI.1
      refine (if_pos (decide_eq_true (by omega))).trans ?_
      simp only [snowlineref01_core.f, if_pos i0, if_pos i1, Option.bind_some, c1, c2]
  · rw [if_neg a]
    exact Ev.congr (fun k => if_neg a) (Ev.now _)
theorem up_words {m M : Int} (h0 : 1 ≤ m) (hm : m ≤ 1000) (h1 : 0 ≤ M) (h2 : M ≤ 100000000) :
    wrap64 (Int.tdiv (wrap64 (wrap64 (M + m) - 1)) m) = (M + m - 1) / m ∧ wrap64 (Int.tdiv (wrap64 (wrap64 (20 * M + 20 * m) - 1)) (20 * m)) = (M + m - 1) / m := by
  have a0 : 0 ≤ (M + m - 1) / m := Int.ediv_nonneg (by omega) (by omega)
  have a1 : (M + m - 1) / m ≤ M + m - 1 := Int.ediv_le_self _ (by omega)
  rw [w64 (x := M + m) (by omega) (by omega), w64 (x := M + m - 1) (by omega) (by omega), Int.tdiv_eq_ediv_of_nonneg (by omega)]
  rw [w64 (x := 20 * M + 20 * m) (by omega) (by omega), w64 (x := 20 * M + 20 * m - 1) (by omega) (by omega), Int.tdiv_eq_ediv_of_nonneg (by omega)]
  have e : (20 * M + 20 * m - 1) / (20 * m) = (M + m - 1) / m := by
    rw [← Int.ediv_ediv_of_nonneg (show (0 : Int) ≤ 20 by omega)]
    congr 1
    omega
  rw [e, w64 (by omega) (by omega)]
  exact ⟨rfl, rfl⟩
theorem low_words {m L : Int} (h0 : 1 ≤ m) (hm : m ≤ 1000) (h1 : 0 ≤ L) (h2 : L ≤ 100000000) : wrap64 (20 * m) = 20 * m ∧ wrap64 (Int.tdiv L (20 * m)) = L / (20 * m) := by
  have a0 : 0 ≤ L / (20 * m) := Int.ediv_nonneg (by omega) (by omega)
  have a1 : L / (20 * m) ≤ L := Int.ediv_le_self _ (by omega)
  rw [Int.tdiv_eq_ediv_of_nonneg (by omega)]
  exact ⟨w64 (by omega) (by omega), w64 (by omega) (by omega)⟩
def waterOf (s : S47) (k : S71) (T : Int × Int) : Int × Int := ((20 * (coreOf s k T).1 + k.f3 * s.f5) / (20 * s.f5), ((coreOf s k T).2 + k.f3 * s.f5 + s.f5 - 1) / s.f5)
def waterR (w : Int) (s : S47) (i : Int) (T : Int × Int) : Int × Int × Int := if w = 0 then (if T.1 > T.2 then (0, 0, 13) else ((waterOf s (rd_T71 s.f8 i) T).1, (waterOf s (rd_T71 s.f8 i) T).2, 0)) else (0, 0, w)
theorem course_Water_eq (no rate : Int) (l : List S26) (s : S47) (i known : Int) (hn : l.length ≤ 100) (hm : s.f8.length ≤ 100) :
    ∃ e1 e2, ErrS no rate l e1 ∧ ErrH s e2 ∧ Ev (fun k => course_Water.f k no rate l s.f0 s.f1 s.f2 s.f3 s.f4 s.f5 s.f6 s.f7 s.f8 i known) (waterR (weighE e1 e2 no s i known) s i (turnsOf rate l s known)) := by
  obtain ⟨e1, e2, h1, h2, v⟩ := course_look_eq no rate l s i known hn hm
  refine ⟨e1, e2, h1, h2, ?_⟩
  unfold course_Water.f
  refine Ev.bind v (Ev.const ?_)
  unfold lookR waterR
  by_cases a : weighE e1 e2 no s i known = 0
  · obtain ⟨z1, z2, _, _, i0, i1⟩ := weighE_zero a
    obtain ⟨tI, tB, _⟩ := course_turns_eq no rate l s known (errS_ok h1 z1) (h2.zero z2)
    simp only [if_pos a]
    by_cases b : (turnsOf rate l s known).1 > (turnsOf rate l s known).2
    · simp only [if_pos b]
      rw [if_neg (by decide)]
    · simp only [if_neg b]
      have hk := stake_at (h2.zero z2) i0 i1
      obtain ⟨c1, c2⟩ := core_words (h2.zero z2) hk tB tI.1
      obtain ⟨q1, q2, q3, q4⟩ := core_in (h2.zero z2) hk tB tI.1 (by omega) (turn_at tI i0 i1)
      obtain ⟨l1, l2⟩ := lost_in (h2.zero z2) hk
      obtain ⟨_, _, _, m0, m1, _⟩ := h2.zero z2
      rw [if_pos trivial, if_pos i0, if_pos i1]
      unfold waterOf
      generalize hc1 : (coreOf s (rd_T71 s.f8 i) (turnsOf rate l s known)).1 = C1 at *
      generalize hc2 : (coreOf s (rd_T71 s.f8 i) (turnsOf rate l s known)).2 = C2 at *
      generalize hL : (rd_T71 s.f8 i).f3 * s.f5 = L at *
      simp only [course_snow.f, course_core.f, Option.bind_some, c1, c2, hL]
      obtain ⟨u1, _⟩ := up_words (M := C2 + L) m0 m1 (by omega) (by omega)
      obtain ⟨g1, g2⟩ := low_words (L := 20 * C1 + L) m0 m1 (by omega) (by omega)
      rw [w64 (x := L) (by omega) (by omega), w64 (x := 20 * C1) (by omega) (by omega), w64 (x := 20 * C1 + L) (by omega) (by omega), w64 (x := C2 + L) (by omega) (by omega), g1, if_neg (by omega), g2]
      simp only [course_up.f]
      rw [if_neg (by omega), u1]
      rfl
  · simp only [if_neg a]
theorem ref_Water_eq (no rate : Int) (l : List S26) (s : S47) (i known : Int) (hn : l.length ≤ 100) (hm : s.f8.length ≤ 100) :
    ∃ e1 e2, ErrS no rate l e1 ∧ ErrH s e2 ∧ Ev (fun k => snowlineref01_Water.f k no rate l s.f0 s.f1 s.f2 s.f3 s.f4 s.f5 s.f6 s.f7 s.f8 i known) (waterR (weighE e1 e2 no s i known) s i (turnsOf rate l s known)) := by
  obtain ⟨e1, e2, h1, h2, v⟩ := ref_weighed_eq no rate l s i known hn hm
  refine ⟨e1, e2, h1, h2, ?_⟩
  unfold snowlineref01_Water.f waterR
  refine Ev.bind v ?_
  by_cases a : weighE e1 e2 no s i known = 0
  · obtain ⟨z1, z2, _, _, i0, i1⟩ := weighE_zero a
    obtain ⟨tI, tB, _⟩ := course_turns_eq no rate l s known (errS_ok h1 z1) (h2.zero z2)
    rw [if_pos a]
    refine Ev.congr (fun k => if_pos a) (Ev.bind (ref_turns_eq no rate l s known (errS_ok h1 z1) (h2.zero z2)) (Ev.const ?_))
    by_cases b : (turnsOf rate l s known).1 > (turnsOf rate l s known).2
    · rw [if_pos b]
      exact if_neg (by simp; omega)
    · rw [if_neg b]
      have hk := stake_at (h2.zero z2) i0 i1
      obtain ⟨c1, c2⟩ := core_words (h2.zero z2) hk tB tI.1
      obtain ⟨q1, q2, q3, q4⟩ := core_in (h2.zero z2) hk tB tI.1 (by omega) (turn_at tI i0 i1)
      obtain ⟨l1, l2⟩ := lost_in (h2.zero z2) hk
      obtain ⟨_, _, _, m0, m1, _⟩ := h2.zero z2
      refine (if_pos (decide_eq_true (by omega))).trans ?_
      unfold waterOf
      generalize hc1 : (coreOf s (rd_T71 s.f8 i) (turnsOf rate l s known)).1 = C1 at *
      generalize hc2 : (coreOf s (rd_T71 s.f8 i) (turnsOf rate l s known)).2 = C2 at *
      generalize hL : (rd_T71 s.f8 i).f3 * s.f5 = L at *
      simp only [snowlineref01_snow.f, snowlineref01_core.f, if_pos i0, if_pos i1, Option.bind_some, c1, c2, hL]
      obtain ⟨_, u1⟩ := up_words (M := C2 + L) m0 m1 (by omega) (by omega)
      obtain ⟨g1, g2⟩ := low_words (L := 20 * C1 + L) m0 m1 (by omega) (by omega)
      rw [w64 (x := L) (by omega) (by omega), w64 (x := 20 * L) (by omega) (by omega), w64 (x := 20 * C1) (by omega) (by omega), w64 (x := 20 * C2) (by omega) (by omega), w64 (x := 20 * C1 + L) (by omega) (by omega), w64 (x := 20 * C2 + 20 * L) (by omega) (by omega), g1]
      simp only [snowlineref01_rounded.f]
      have hd : 20 * C2 + 20 * L = 20 * (C2 + L) := by omega
      rw [if_neg (by omega), g2, hd, u1]
      rfl
  · rw [if_neg a]
    exact Ev.congr (fun k => if_neg a) (Ev.now _)
end Go.Proofs.YtapijkdgkajoeaaDoor.PF
end
section
namespace Go.Proofs.YtapijkdgkajoeaaDoor.PF
open Go.RowKit Go.Proofs.YtapijkdgkajoeaaDoorW.PrintWords Go.Proofs.YtapijkdgkajoeaaDoorW.PrintLast Go.Proofs.YtapijkdgkajoeaaDoorW.PrintMore
attribute [local go_sem] max2_int min2_int max_two min_two
set_option linter.unusedVariables false
set_option linter.unusedSimpArgs false
attribute [local go_sem high] ixA103_1
theorem eqA40 (d : Nat) (w : World) (x0 y0 : Int) (x1 y1 : Int) :
  (Op.equalIn (d + 2) 40 (.agg #[.int .i64 x0, .int .i64 x1]) (.agg #[.int .i64 y0, .int .i64 y1])).run Tryd.prog w = .ok (x0 == y0 && (x1 == y1)) w := by
 refine eqA_of Tryd.underlying40 (by kernel_rfl) ?_
 refine eqf_cons (by rfl) (by go_simp; rfl) (by go_simp; rfl) (by go_simp) ?_
 exact eqf_last (by rfl) (by go_simp; rfl) (by go_simp; rfl) (by go_simp)
def course_rising.l0 : Nat → List Int → List Int → Int → Int → Option (Bool)
 | 0, _, _, _, _ => none
 | k + 1, x0, x5, x6, x7 => if x7 < x6 then (if 0 ≤ x7 then (if x7 < (x5.length : Int) then ((course_day.f (rd x5 x7)).bind fun t275 => (if t275 = true then (if x7 > 0 then (if 0 ≤ (wrap64 (x7 - 1)) then (if (wrap64 (x7 - 1)) < (x0.length : Int) then (if (rd x0 (wrap64 (x7 - 1))) ≥ (rd x5 x7) then (some false) else (course_rising.l0 k x0 x5 x6 (wrap64 (x7 + 1)))) else (none)) else (none)) else (course_rising.l0 k x0 x5 x6 (wrap64 (x7 + 1)))) else (some false))) else (none)) else (none)) else (some (decide ((x0.length : Int) ≤ 64)))
def course_rising.f (k : Nat) (l0 : List Int) : Option (Bool) := course_rising.l0 k l0 l0 (l0.length : Int) 0
theorem course_rising.mono_l : ∀ k, (∀ y0 y1 y2 y3, LeO (course_rising.l0 k y0 y1 y2 y3) (course_rising.l0 (k + 1) y0 y1 y2 y3))
 | 0 => fun _ _ _ _ r h => by simp [course_rising.l0] at h
 | k + 1 => by
  have ih0 := course_rising.mono_l k
  ·
   intro y0 y1 y2 y3
   unfold course_rising.l0
   repeat' first
   | (with_reducible exact ih0 _ _ _ _)
   | (with_reducible exact LeO.refl _)
   | (with_reducible exact LeO.none _)
   | (with_reducible refine LeO.ite ?_ ?_)
   | (with_reducible refine LeO.bind ?_ (fun _ => ?_))
   | exact ih0 _ _ _ _
   | exact LeO.none _
   | refine LeO.ite ?_ ?_
   | refine LeO.bind ?_ (fun _ => ?_)
theorem course_rising.mono : ∀ a0 k, LeO (course_rising.f k a0) (course_rising.f (k + 1) a0) := by
 intro a0 k
 have ih0 := course_rising.mono_l k
 unfold course_rising.f
 repeat' first
   | (with_reducible exact ih0 _ _ _ _)
   | (with_reducible exact LeO.refl _)
   | (with_reducible exact LeO.none _)
   | (with_reducible refine LeO.ite ?_ ?_)
   | (with_reducible refine LeO.bind ?_ (fun _ => ?_))
   | exact ih0 _ _ _ _
   | exact LeO.none _
   | refine LeO.ite ?_ ?_
   | refine LeO.bind ?_ (fun _ => ?_)
set_option maxHeartbeats 8000000 in
set_option maxRecDepth 100000 in
theorem course_rising.calls (k : Nat) (A0 : Option Addr) (c0 : Nat) (l0 : List Int) (r : Bool) (w : World) (hr0 : Kd.C (Kd.int .i64) w A0 l0.length l0) (hc0 : l0.length ≤ c0) (h : course_rising.f k l0 = some r) :
  Calls Tryd.prog 97 #[.slice A0 l0.length c0] w fun e w' => e = .returned (.bool r) ∧ Drawn0 w w' := by
 have HR0 := Aside0.mk (hr0)
 have HC0 := Aside0.mk (hc0)
 clear hr0 hc0
 have H : (course_rising.l0 k l0 l0 (l0.length : Int) 0) = some r := h
 clear h
 have H' := Aside0.mk H
 clear H
 go_enter Tryd.func97, Tryd.ntmps97
 go_wp2
 go_loopg [7] k (fun kq v7 w' => ∃ (x7_1 : Int), v7 = .int .i64 x7_1 ∧ Aside0 (course_rising.l0 kq l0 l0 (l0.length : Int) x7_1 = some r) ∧ Aside0 (kq ≤ k) ∧ Drawn0 w w')
 case atStart => exact ⟨(0), (by first | rfl | (simp; done) | (simp [*]; done)), H', ⟨Nat.le_refl _⟩, by repeat (first | exact Drawn0.refl _ | apply Drawn0.step)⟩
 case round =>
  clear H'
  obtain ⟨x7_1, rfl, HA, HK1, ⟨m1, rfl⟩⟩ := hrel
  cases gk with
  | zero => exact absurd HA.out (by simp [course_rising.l0])
  | succ k1 =>
   have H := HA.out
   clear HA
   simp only [course_rising.l0] at H
   by_cases c2 : x7_1 < (l0.length : Int)
   ·
    rw [if_pos c2] at H
    have c2b0 : decide (x7_1 < (l0.length : Int)) = true := decide_eq_true c2
    clear c2
    by_cases c3 : 0 ≤ x7_1
    ·
     rw [if_pos c3] at H
     have c3b0 : decide (0 ≤ x7_1) = true := decide_eq_true c3
     clear c3
     by_cases c4 : x7_1 < (l0.length : Int)
     ·
      rw [if_pos c4] at H
      have c4b0 : decide (x7_1 < (l0.length : Int)) = true := decide_eq_true c4
      clear c4
      replace H := Option.bind_eq_some_iff.mp H
      obtain ⟨t275, A50, H⟩ := H
      have A5 := Aside0.mk (A50)
      clear A50
      by_cases c6 : t275 = true
      ·
       subst c6
       rw [if_pos rfl] at H
       by_cases c7 : x7_1 > 0
       ·
        rw [if_pos c7] at H
        have c7b0 : decide (0 < x7_1) = true := decide_eq_true c7
        clear c7
        obtain ⟨ji8, hji8⟩ : ∃ j_ : Int, (wrap64 (x7_1 - 1)) = j_ := ⟨_, rfl⟩
        replace H : (if 0 ≤ (ji8) then (if (ji8) < (l0.length : Int) then (if (rd l0 (ji8)) ≥ (rd l0 x7_1) then (some false) else (course_rising.l0 k1 l0 l0 (l0.length : Int) (wrap64 (x7_1 + 1)))) else (none)) else (none)) = some r := by first | (rw [hji8] at H; exact H) | (simp only [hji8] at H ⊢; exact H)
        (try rw [hji8] at A5)
        have hji8w : (IntKind.i64.wrap (x7_1 - 1)) = ji8 := (i64_w _).trans hji8
        by_cases c9 : 0 ≤ (ji8)
        ·
         rw [if_pos c9] at H
         have c9b0 : decide (0 ≤ (ji8)) = true := decide_eq_true c9
         clear c9
         by_cases c10 : (ji8) < (l0.length : Int)
         ·
          rw [if_pos c10] at H
          have c10b0 : decide ((ji8) < (l0.length : Int)) = true := decide_eq_true c10
          clear c10
          by_cases c11 : (rd l0 (ji8)) ≥ (rd l0 x7_1)
          ·
           rw [if_pos c11] at H
           have c11b0 : decide ((rd l0 x7_1) ≤ (rd l0 (ji8))) = true := decide_eq_true c11
           clear c11
           obtain rfl := Option.some.inj H
           have p274 : 0 ≤ (x7_1 : Int) := of_decide_eq_true (by first | (with_reducible assumption) | assumption)
           have q274 : x7_1 < (l0.length : Int) := of_decide_eq_true (by first | (with_reducible assumption) | assumption)
           obtain ⟨ad274, e274, hx274_0⟩ := Kd.at_int HR0.out x7_1 p274 q274
           cases e274
           replace p274 := eq_true p274
           replace q274 := eq_true q274
           go_wp2_with (first | ((with_reducible refine gate_callee (f := 74) rfl ?_); refine goesLM (some 13) rfl rfl Tryd.func74 (by kernel_rfl) rfl #[.int .i64 (rd l0 x7_1)] rfl (by rfl) ?_; (with_reducible refine (course_day.calls (rd l0 x7_1) true _ A5.out).mono ?_); rintro e w' ⟨rfl, ⟨nd, rfl⟩⟩; refine ⟨_, rfl, ?_⟩; have p276 : 0 ≤ ((ji8) : Int) := of_decide_eq_true (by first | (with_reducible assumption) | assumption); have q276 : (ji8) < (l0.length : Int) := of_decide_eq_true (by first | (with_reducible assumption) | assumption); obtain ⟨ad276, e276, hx276_0⟩ := Kd.at_int HR0.out (ji8) p276 q276; obtain rfl : ad274 = ad276 := (by injection e276); replace p276 := eq_true p276; replace q276 := eq_true q276))
           go_ret
           exact ⟨by first | rfl | (simp; done) | (simp only [← hji8] <;> (first | rfl | simp)) | (simp [*]; done), by repeat (first | exact Drawn0.refl _ | apply Drawn0.step)⟩
          ·
           rw [if_neg c11] at H
           have c11b0 : decide ((rd l0 x7_1) ≤ (rd l0 (ji8))) = false := decide_eq_false c11
           clear c11
           have H' := Aside0.mk H
           clear H
           have p274 : 0 ≤ (x7_1 : Int) := of_decide_eq_true (by first | (with_reducible assumption) | assumption)
           have q274 : x7_1 < (l0.length : Int) := of_decide_eq_true (by first | (with_reducible assumption) | assumption)
           obtain ⟨ad274, e274, hx274_0⟩ := Kd.at_int HR0.out x7_1 p274 q274
           cases e274
           replace p274 := eq_true p274
           replace q274 := eq_true q274
           go_wp2_with (first | ((with_reducible refine gate_callee (f := 74) rfl ?_); refine goesLM (some 13) rfl rfl Tryd.func74 (by kernel_rfl) rfl #[.int .i64 (rd l0 x7_1)] rfl (by rfl) ?_; (with_reducible refine (course_day.calls (rd l0 x7_1) true _ A5.out).mono ?_); rintro e w' ⟨rfl, ⟨nd, rfl⟩⟩; refine ⟨_, rfl, ?_⟩; have p276 : 0 ≤ ((ji8) : Int) := of_decide_eq_true (by first | (with_reducible assumption) | assumption); have q276 : (ji8) < (l0.length : Int) := of_decide_eq_true (by first | (with_reducible assumption) | assumption); obtain ⟨ad276, e276, hx276_0⟩ := Kd.at_int HR0.out (ji8) p276 q276; obtain rfl : ad274 = ad276 := (by injection e276); replace p276 := eq_true p276; replace q276 := eq_true q276))
           go_roundg k1
           case measure => have := HK1.out; omega
           case rel => exact ⟨(wrap64 (x7_1 + 1)), (by first | rfl | (simp; done) | (simp [*]; done)), H', ⟨by have := HK1.out; omega⟩, by repeat (first | exact Drawn0.refl _ | apply Drawn0.step)⟩
         ·
          rw [if_neg c10] at H
          exact absurd H (by simp)
        ·
         rw [if_neg c9] at H
         exact absurd H (by simp)
       ·
        rw [if_neg c7] at H
        have c7b0 : decide (0 < x7_1) = false := decide_eq_false c7
        clear c7
        have H' := Aside0.mk H
        clear H
        have p274 : 0 ≤ (x7_1 : Int) := of_decide_eq_true (by first | (with_reducible assumption) | assumption)
        have q274 : x7_1 < (l0.length : Int) := of_decide_eq_true (by first | (with_reducible assumption) | assumption)
        obtain ⟨ad274, e274, hx274_0⟩ := Kd.at_int HR0.out x7_1 p274 q274
        cases e274
        replace p274 := eq_true p274
        replace q274 := eq_true q274
        go_wp2_with (first | ((with_reducible refine gate_callee (f := 74) rfl ?_); refine goesLM (some 13) rfl rfl Tryd.func74 (by kernel_rfl) rfl #[.int .i64 (rd l0 x7_1)] rfl (by rfl) ?_; (with_reducible refine (course_day.calls (rd l0 x7_1) true _ A5.out).mono ?_); rintro e w' ⟨rfl, ⟨nd, rfl⟩⟩; refine ⟨_, rfl, ?_⟩))
        go_roundg k1
        case measure => have := HK1.out; omega
        case rel => exact ⟨(wrap64 (x7_1 + 1)), (by first | rfl | (simp; done) | (simp [*]; done)), H', ⟨by have := HK1.out; omega⟩, by repeat (first | exact Drawn0.refl _ | apply Drawn0.step)⟩
      ·
       replace c6 := Bool.eq_false_iff.mpr c6
       subst c6
       rw [if_neg (show ¬ (false = true) by decide)] at H
       obtain rfl := Option.some.inj H
       have p274 : 0 ≤ (x7_1 : Int) := of_decide_eq_true (by first | (with_reducible assumption) | assumption)
       have q274 : x7_1 < (l0.length : Int) := of_decide_eq_true (by first | (with_reducible assumption) | assumption)
       obtain ⟨ad274, e274, hx274_0⟩ := Kd.at_int HR0.out x7_1 p274 q274
       cases e274
       replace p274 := eq_true p274
       replace q274 := eq_true q274
       go_wp2_with (first | ((with_reducible refine gate_callee (f := 74) rfl ?_); refine goesLM (some 13) rfl rfl Tryd.func74 (by kernel_rfl) rfl #[.int .i64 (rd l0 x7_1)] rfl (by rfl) ?_; (with_reducible refine (course_day.calls (rd l0 x7_1) false _ A5.out).mono ?_); rintro e w' ⟨rfl, ⟨nd, rfl⟩⟩; refine ⟨_, rfl, ?_⟩))
       go_ret
       exact ⟨by first | rfl | (simp; done) | (simp [*]; done), by repeat (first | exact Drawn0.refl _ | apply Drawn0.step)⟩
     ·
      rw [if_neg c4] at H
      exact absurd H (by simp)
    ·
     rw [if_neg c3] at H
     exact absurd H (by simp)
   ·
    rw [if_neg c2] at H
    have c2b0 : decide (x7_1 < (l0.length : Int)) = false := decide_eq_false c2
    clear c2
    obtain rfl := Option.some.inj H
    go_wp2
    go_ret
    exact ⟨by first | rfl | (simp; done) | (simp [*]; done), by repeat (first | exact Drawn0.refl _ | apply Drawn0.step)⟩
def course_within.f (a0 : Int) (a1 : Int) (a2 : Int) : Option (Bool) := (course_apart.f a0 a1).bind fun t277 => (some (decide (t277 ≤ a2)))
set_option maxHeartbeats 8000000 in
set_option maxRecDepth 100000 in
theorem course_within.calls (a0 : Int) (a1 : Int) (a2 : Int) (r : Bool) (w : World) (h : course_within.f a0 a1 a2 = some r) :
  Calls Tryd.prog 132 #[.int .i64 a0, .int .i64 a1, .int .i64 a2] w fun e w' => e = .returned (.bool r) ∧ Below w.heap.size w w' := by
 have HB := Bw.mk (Below.refl w.heap.size w)
 have H : ((course_apart.f a0 a1).bind fun t277 => (some (decide (t277 ≤ a2)))) = some r := h
 clear h
 replace H := Option.bind_eq_some_iff.mp H
 obtain ⟨t277, A40, H⟩ := H
 have A4 := Aside0.mk (A40)
 clear A40
 obtain rfl := Option.some.inj H
 go_enter Tryd.func132, Tryd.ntmps132
 go_wp2_with (first | ((with_reducible refine gate_callee (f := 101) rfl ?_); refine goesLM (some 9) rfl rfl Tryd.func101 (by kernel_rfl) rfl #[.int .i64 a0, .int .i64 a1] rfl (by rfl) ?_; (with_reducible refine (course_apart.calls a0 a1 t277 _ A4.out).mono ?_); rintro e w5 ⟨rfl, hb⟩; refine ⟨_, rfl, ?_⟩; replace HB := bS w hb; (try clear hb)))
 go_ret
 exact ⟨by first | rfl | (simp [errW_none, errW_some] <;> rfl) | (simp [*, errW_none, errW_some] <;> rfl), bw w⟩
mutual
def course_possible.l0 : Nat → Int → List Int → List Int → List Int → Int → Int → Int → Int → List (S26) → Option (Bool)
 | 0, _, _, _, _, _, _, _, _, _ => none
 | k + 1, x1, x2, x3, x12, x13, x14, x279000, x279001, x279002 => if x14 < x13 then (if 0 ≤ x14 then (if x14 < (x12.length : Int) then ((course_drift.f k x279000 x279001 x279002 (rd x12 x14) x1).bind fun bt280 => (if x14 < (x3.length : Int) then (if (rd x3 x14) < bt280.1 then (course_possible.j1 k x1 x2 x3 x14 (rd x12 x14) x12 x13 x14 true x279000 x279001 x279002) else (course_possible.j1 k x1 x2 x3 x14 (rd x12 x14) x12 x13 x14 (decide ((rd x3 x14) > bt280.2)) x279000 x279001 x279002)) else (none))) else (none)) else (none)) else (some true)
def course_possible.j1 : Nat → Int → List Int → List Int → Int → Int → List Int → Int → Int → Bool → Int → Int → List (S26) → Option (Bool)
 | 0, _, _, _, _, _, _, _, _, _, _, _, _ => none
 | k + 1, x1, x2, x3, x9, x10, x12, x13, x14, x38, x279000, x279001, x279002 => if x38 = true then (some false) else (if x9 > 0 then (if 0 ≤ (wrap64 (x9 - 1)) then (if (wrap64 (x9 - 1)) < (x3.length : Int) then (if 0 ≤ x9 then (if x9 < (x3.length : Int) then (if (wrap64 (x9 - 1)) < (x2.length : Int) then ((course_within.f (rd x3 (wrap64 (x9 - 1))) (rd x3 x9) (wrap64 (x279001 * (wrap64 (x10 - (rd x2 (wrap64 (x9 - 1)))))))).bind fun t288 => (if t288 = true then (course_possible.l0 k x1 x2 x3 x12 x13 (wrap64 (x14 + 1)) x279000 x279001 x279002) else (some false))) else (none)) else (none)) else (none)) else (none)) else (none)) else (course_possible.l0 k x1 x2 x3 x12 x13 (wrap64 (x14 + 1)) x279000 x279001 x279002))
end
def course_possible.f (k : Nat) (a0_0 : Int) (a0_1 : Int) (l0_2 : List (S26)) (a1 : Int) (l2 : List Int) (l3 : List Int) : Option (Bool) := course_possible.l0 k a1 l2 l3 l2 (l2.length : Int) 0 a0_0 a0_1 l0_2
theorem course_possible.mono_l : ∀ k, (∀ y0 y1 y2 y3 y4 y5 y6 y7 y8, LeO (course_possible.l0 k y0 y1 y2 y3 y4 y5 y6 y7 y8) (course_possible.l0 (k + 1) y0 y1 y2 y3 y4 y5 y6 y7 y8)) ∧ (∀ y0 y1 y2 y3 y4 y5 y6 y7 y8 y9 y10 y11, LeO (course_possible.j1 k y0 y1 y2 y3 y4 y5 y6 y7 y8 y9 y10 y11) (course_possible.j1 (k + 1) y0 y1 y2 y3 y4 y5 y6 y7 y8 y9 y10 y11))
 | 0 => ⟨fun _ _ _ _ _ _ _ _ _ r h => by simp [course_possible.l0] at h, fun _ _ _ _ _ _ _ _ _ _ _ _ r h => by simp [course_possible.j1] at h⟩
 | k + 1 => by
  obtain ⟨ih0, ih1⟩ := course_possible.mono_l k
  refine ⟨?_, ?_⟩
  ·
   intro y0 y1 y2 y3 y4 y5 y6 y7 y8
   unfold course_possible.l0
   repeat' first
   | (with_reducible exact ih0 _ _ _ _ _ _ _ _ _)
   | (with_reducible exact ih1 _ _ _ _ _ _ _ _ _ _ _ _)
   | (with_reducible exact course_drift.mono _ _ _ _ _ _)
   | (with_reducible exact LeO.refl _)
   | (with_reducible exact LeO.none _)
   | (with_reducible refine LeO.ite ?_ ?_)
   | (with_reducible refine LeO.bind ?_ (fun _ => ?_))
   | exact ih0 _ _ _ _ _ _ _ _ _
   | exact ih1 _ _ _ _ _ _ _ _ _ _ _ _
   | exact course_drift.mono _ _ _ _ _ _
   | exact LeO.none _
   | refine LeO.ite ?_ ?_
   | refine LeO.bind ?_ (fun _ => ?_)
  ·
   intro y0 y1 y2 y3 y4 y5 y6 y7 y8 y9 y10 y11
   unfold course_possible.j1
   repeat' first
   | (with_reducible exact ih0 _ _ _ _ _ _ _ _ _)
   | (with_reducible exact ih1 _ _ _ _ _ _ _ _ _ _ _ _)
   | (with_reducible exact course_drift.mono _ _ _ _ _ _)
   | (with_reducible exact LeO.refl _)
   | (with_reducible exact LeO.none _)
   | (with_reducible refine LeO.ite ?_ ?_)
   | (with_reducible refine LeO.bind ?_ (fun _ => ?_))
   | exact ih0 _ _ _ _ _ _ _ _ _
   | exact ih1 _ _ _ _ _ _ _ _ _ _ _ _
   | exact course_drift.mono _ _ _ _ _ _
   | exact LeO.none _
   | refine LeO.ite ?_ ?_
   | refine LeO.bind ?_ (fun _ => ?_)
theorem course_possible.mono : ∀ a0 a1 a2 a3 a4 a5 k, LeO (course_possible.f k a0 a1 a2 a3 a4 a5) (course_possible.f (k + 1) a0 a1 a2 a3 a4 a5) := by
 intro a0 a1 a2 a3 a4 a5 k
 obtain ⟨ih0, ih1⟩ := course_possible.mono_l k
 unfold course_possible.f
 repeat' first
   | (with_reducible exact ih0 _ _ _ _ _ _ _ _ _)
   | (with_reducible exact ih1 _ _ _ _ _ _ _ _ _ _ _ _)
   | (with_reducible exact course_drift.mono _ _ _ _ _ _)
   | (with_reducible exact LeO.refl _)
   | (with_reducible exact LeO.none _)
   | (with_reducible refine LeO.ite ?_ ?_)
   | (with_reducible refine LeO.bind ?_ (fun _ => ?_))
   | exact ih0 _ _ _ _ _ _ _ _ _
   | exact ih1 _ _ _ _ _ _ _ _ _ _ _ _
   | exact course_drift.mono _ _ _ _ _ _
   | exact LeO.none _
   | refine LeO.ite ?_ ?_
   | refine LeO.bind ?_ (fun _ => ?_)
def course_possible.T5 : Bool × List (List Nat × List Nat) := (true, [([], []), ([], []), ([0, 1], [0, 1]), ([2], [2]), ([], []), ([4], [4]), ([3, 5], [3, 5]), ([6], [6]), ([7], [7]), ([7], [7]), ([8, 9, 7], [7, 8, 9]), ([10, 7], [7, 10]), ([7], [7]), ([12, 7], [7, 12]), ([11, 13, 7], [7, 11, 13]), ([7, 14], [7, 14])])
def course_possible.B5 : List Nat := [0, 0, 3, 7, 0, 16, 63, 127, 255, 255, 1023, 2047, 255, 4351, 16383, 32767]
theorem course_possible.tab5 : rtab .any (opsOf Tryd.f98 5) = course_possible.T5 := by kernel_rfl
theorem course_possible.bits5 : waitsOk course_possible.T5.2 course_possible.B5 = true := by kernel_rfl
def course_possible.T7 : Bool × List (List Nat × List Nat) := (true, [([], []), ([0], [0]), ([1], [1]), ([2], [2]), ([2], [2]), ([4, 2], [2, 4]), ([3, 5, 2], [2, 3, 5]), ([6, 2], [2, 6]), ([2], [2]), ([2], [2]), ([8, 9, 2], [2, 8, 9]), ([10, 2], [2, 10]), ([2], [2]), ([12, 2], [2, 12]), ([2], [2]), ([2], [2]), ([2], [2]), ([16, 2], [2, 16]), ([15, 17, 2], [2, 15, 17]), ([18, 2], [2, 18]), ([14, 19, 2], [2, 14, 19]), ([13, 20, 2], [2, 13, 20]), ([7, 11, 21, 2, 2], [2, 7, 11, 21]), ([22, 2], [2, 22]), ([2, 23], [2, 23])])
def course_possible.B7 : List Nat := [0, 1, 3, 7, 7, 23, 63, 127, 7, 7, 775, 1799, 7, 4103, 7, 7, 7, 65543, 229383, 491527, 1032199, 2093063, 4194303, 8388607, 16777215]
theorem course_possible.tab7 : rtab .any (opsOf Tryd.f98 7) = course_possible.T7 := by kernel_rfl
theorem course_possible.bits7 : waitsOk course_possible.T7.2 course_possible.B7 = true := by kernel_rfl
set_option maxHeartbeats 8000000 in
set_option maxRecDepth 100000 in
theorem course_possible.calls (k : Nat) (a0_0 : Int) (a0_1 : Int) (A0_2 : Option Addr) (c0_2 : Nat) (l0_2 : List (S26)) (a1 : Int) (A2 : Option Addr) (c2 : Nat) (l2 : List Int) (A3 : Option Addr) (c3 : Nat) (l3 : List Int) (r : Bool) (w : World) (hr0_2 : Kd.C k26 w A0_2 l0_2.length l0_2) (hc0_2 : l0_2.length ≤ c0_2) (hr2 : Kd.C (Kd.int .i64) w A2 l2.length l2) (hc2 : l2.length ≤ c2) (hr3 : Kd.C (Kd.int .i64) w A3 l3.length l3) (hc3 : l3.length ≤ c3) (h : course_possible.f k a0_0 a0_1 l0_2 a1 l2 l3 = some r) :
  Calls Tryd.prog 98 #[.agg #[.int .i64 a0_0, .int .i64 a0_1, .slice A0_2 l0_2.length c0_2], .int .i64 a1, .slice A2 l2.length c2, .slice A3 l3.length c3] w fun e w' => e = .returned (.bool r) ∧ Below w.heap.size w w' := by
 have hu24 := Tryd.underlying24
 have hu103 := Tryd.underlying103
 have HR0_2 := Aside0.mk (hr0_2)
 have HC0_2 := Aside0.mk (hc0_2)
 clear hr0_2 hc0_2
 have HR2 := Aside0.mk (hr2)
 have HC2 := Aside0.mk (hc2)
 clear hr2 hc2
 have HR3 := Aside0.mk (hr3)
 have HC3 := Aside0.mk (hc3)
 clear hr3 hc3
 have HB := Bw.mk (Below.refl w.heap.size w)
 have H : (course_possible.l0 k a1 l2 l3 l2 (l2.length : Int) 0 a0_0 a0_1 l0_2) = some r := h
 clear h
 have H' := Aside0.mk H
 clear H
 go_enter Tryd.func98, Tryd.ntmps98
 go_wp2_with (first | ((with_reducible refine gate_dst (N := 4) rfl ?_); refine bxE 4 24 #[.int .i64 a0_0, .int .i64 a0_1, .slice A0_2 l0_2.length c0_2] (by rfl) (by rfl) (by first | (go_simp; done) | (go_simp; rfl)) ?_; intro gb278 hg w5 hbox hb; have BK278 := Bk.mk (hbox); have GE278 := eB w hg; replace HB := bS w hb; clear hb hbox hg))
 go_loopg [14] k (fun kq v14 w' => ∃ (x14_1 : Int), v14 = .int .i64 x14_1 ∧ Aside0 (course_possible.l0 kq a1 l2 l3 l2 (l2.length : Int) x14_1 a0_0 a0_1 l0_2 = some r) ∧ Aside0 (kq ≤ k) ∧ Bk w' gb278 (.cells #[.int .i64 a0_0, .int .i64 a0_1, (.slice A0_2 l0_2.length c0_2)] 24 (0, 0)) ∧ Bw w w')
 case atStart => exact ⟨(0), (by first | rfl | (simp; done) | (simp [*]; done)), H', ⟨Nat.le_refl _⟩, inferInstance, inferInstance⟩
 case round =>
  clear H'
  try clear c2
  try clear p2
  try clear c3
  obtain ⟨x14_1, rfl, HA, HK1, BK278, HB⟩ := hrel
  cases gk with
  | zero => exact absurd HA.out (by simp [course_possible.l0])
  | succ k1 =>
   have H := HA.out
   clear HA
   simp only [course_possible.l0] at H
   by_cases c6 : x14_1 < (l2.length : Int)
   ·
    rw [if_pos c6] at H
    have c6b0 : decide (x14_1 < (l2.length : Int)) = true := decide_eq_true c6
    clear c6
    by_cases c7 : 0 ≤ x14_1
    ·
     rw [if_pos c7] at H
     have c7b0 : decide (0 ≤ x14_1) = true := decide_eq_true c7
     clear c7
     by_cases c8 : x14_1 < (l2.length : Int)
     ·
      rw [if_pos c8] at H
      have c8b0 : decide (x14_1 < (l2.length : Int)) = true := decide_eq_true c8
      clear c8
      replace H := Option.bind_eq_some_iff.mp H
      obtain ⟨⟨t280, t281⟩, A90, H⟩ := H
      have A9 := Aside0.mk (A90)
      clear A90
      have HC10 := Aside0.mk (H)
      clear H
      have p279 : 0 ≤ (x14_1 : Int) := of_decide_eq_true (by first | (with_reducible assumption) | assumption)
      have q279 : x14_1 < (l2.length : Int) := of_decide_eq_true (by first | (with_reducible assumption) | assumption)
      obtain ⟨ad279, e279, hx279_0⟩ := Kd.at_int HR2.out x14_1 p279 q279
      cases e279
      replace hx279_0 := cB HB hx279_0
      replace p279 := eq_true p279
      replace q279 := eq_true q279
      obtain ⟨hcz11_0, hcz11_1, hcz11_2, hfz11_0, hfz11_1, hfz11_2⟩ := cz3 BK278
      go_upto_region 5 with (first | ((with_reducible refine gate_callee (f := 77) rfl ?_); refine goesLM (some 22) rfl rfl Tryd.func77 (by kernel_rfl) rfl #[.agg #[.int .i64 a0_0, .int .i64 a0_1, .slice A0_2 l0_2.length c0_2], .int .i64 (rd l2 x14_1), .int .i64 a1] rfl (by rfl) ?_; (with_reducible refine (course_drift.calls k1 a0_0 a0_1 _ _ l0_2 (rd l2 x14_1) a1 t280 t281 _ ?side1 ?side2 A9.out).mono ?_); (case side1 => exact cP (Kd.C_below HR0_2.out HB.out)); (case side2 => exact HC0_2.out); rintro e w12 ⟨rfl, hb⟩; refine ⟨_, rfl, ?_⟩; replace BK278 := kB gb278 hb; replace HB := bS w hb; (try clear hb)) | ((with_reducible refine gate_dst (N := 11) rfl ?_); refine bxE 11 103 #[.int .i64 0, .int .i64 0] (by rfl) (by rfl) (by first | (go_simp; done) | (go_simp; rfl)) ?_; intro gb282 hg w13 hbox hb; have BK282 := Bk.mk (hbox); have GE282 := eB w hg; have NB278_282 := nB gb278 hg; replace BK278 := kB gb278 hb; replace HB := bS w hb; clear hb hbox hg; obtain ⟨hnc14, hnb14⟩ := nn NB278_282; obtain ⟨hcz15_0, hcz15_1, hfz15_0, hfz15_1⟩ := cz2 BK282))
      (try simp only [Act.put, List.setIfInBounds_toArray, List.set_cons_zero, List.set_cons_succ])
      go_cut [38] (fun v38 wc => ∃ (kq : Nat) (x38_9 : Bool), v38 = .bool x38_9 ∧ Aside0 (course_possible.j1 kq a1 l2 l3 x14_1 (rd l2 x14_1) l2 (l2.length : Int) x14_1 x38_9 a0_0 a0_1 l0_2 = some r) ∧ Aside0 (kq ≤ k1) ∧ Bk wc gb278 (.cells #[.int .i64 a0_0, .int .i64 a0_1, (.slice A0_2 l0_2.length c0_2)] 24 (0, 0)) ∧ Bk wc gb282 (.cells #[.int .i64 t280, .int .i64 t281] 103 (0, 0)) ∧ Bw w wc)
      case first =>
       have H := HC10.out
       clear HC10
       by_cases c16 : x14_1 < (l3.length : Int)
       ·
        rw [if_pos c16] at H
        have c16b0 : decide (x14_1 < (l3.length : Int)) = true := decide_eq_true c16
        clear c16
        (first | rw [c16b0] | (simp only [i64_w]; rw [c16b0]) | skip)
        by_cases c17 : (rd l3 x14_1) < t280
        ·
         rw [if_pos c17] at H
         have c17b0 : decide ((rd l3 x14_1) < t280) = true := decide_eq_true c17
         clear c17
         have H' := Aside0.mk H
         clear H
         try go_wp2
         have n0_ : Bk ((w13.setCell ⟨gb282, 0, none⟩ (.int .i64 t280)).setCell ⟨gb282, 1, none⟩ (.int .i64 t281)) gb278 (.cells #[.int .i64 a0_0, .int .i64 a0_1, .slice A0_2 l0_2.length c0_2] 24 (0, 0)) := ⟨bko gb278 (by rfl)⟩
         have n1_ : Bk ((w13.setCell ⟨gb282, 0, none⟩ (.int .i64 t280)).setCell ⟨gb282, 1, none⟩ (.int .i64 t281)) gb282 (.cells #[.int .i64 t280, .int .i64 t281] 103 (0, 0)) := ⟨bko gb282 (by rfl)⟩
         have n2_ : Bw w ((w13.setCell ⟨gb282, 0, none⟩ (.int .i64 t280)).setCell ⟨gb282, 1, none⟩ (.int .i64 t281)) := inferInstance
         (try clear BK278)
         (try clear BK282)
         (try clear HB)
         generalize ((w13.setCell ⟨gb282, 0, none⟩ (.int .i64 t280)).setCell ⟨gb282, 1, none⟩ (.int .i64 t281)) = w18 at n0_ n1_ n2_ ⊢
         have BK278 := n0_
         have BK282 := n1_
         have HB := n2_
         clear n0_ n1_ n2_
         have n0_ := Bk.mk (blk_drew BK278.out)
         have n1_ := Bk.mk (blk_drew BK282.out)
         have n2_ := Bw.mk (below_drew1 HB.out)
         clear BK278 BK282 HB
         have BK278 := n0_
         have BK282 := n1_
         have HB := n2_
         clear n0_ n1_ n2_
         have p283 : 0 ≤ (x14_1 : Int) := of_decide_eq_true (by first | (with_reducible assumption) | assumption)
         have q283 : x14_1 < (l3.length : Int) := of_decide_eq_true (by first | (with_reducible assumption) | assumption)
         obtain ⟨ad283, e283, hx283_0⟩ := Kd.at_int HR3.out x14_1 p283 q283
         have hw283_0 := hx283_0
         cases e283
         replace hx283_0 := cB HB hx283_0
         replace p283 := eq_true p283
         replace q283 := eq_true q283
         refine start_ (n := 16) (S := fun w' => w'.cell? ⟨gb282, 0, none⟩ = some (.int .i64 t280) ∧ w'.cell? ⟨gb282, 1, none⟩ = some (.int .i64 t281) ∧ w'.cell? (ad283.add (x14_1).toNat) = some (.int .i64 (rd l3 x14_1))) (ds := []) #[false, false, false, false, false, false, false, false, false, false, false, false, false, false, false, false] (by kernel_rfl) rfl rfl ⟨bc BK282 0, bc BK282 1, ((HB.out.cell (World.block_lt_of_cell? w _ hw283_0)).trans hw283_0)⟩ (fun hHeld => ?_); refine with_tabW course_possible.tab5 course_possible.bits5 (fun HT_ HW_ => ?_)
         generalize w18.drew = w19 at BK278 BK282 HB hx283_0 hHeld ⊢
         refine pS 0 (some 23) rfl rfl (any_of HT_.out (by kernel_rfl)) (fun _ _ _ h => h) (by rfl) (fun w' => by go_simp; with_reducible rfl) (by simp only [Act.put, List.setIfInBounds_toArray, List.set_cons_zero, List.set_cons_succ, i64_w]; rfl) ?_
         refine pS 1 (some 24) rfl rfl (any_of HT_.out (by kernel_rfl)) (fun _ _ _ h => h) (by rfl) (fun w' => by go_simp; with_reducible rfl) (by simp only [Act.put, List.setIfInBounds_toArray, List.set_cons_zero, List.set_cons_succ, i64_w]; rfl) ?_
         refine pS 2 (some 25) rfl rfl (any_of HT_.out (by kernel_rfl)) (fun _ _ _ h => h) (by rfl) (fun w' => by go_simp; with_reducible rfl) (by simp only [Act.put, List.setIfInBounds_toArray, List.set_cons_zero, List.set_cons_succ, i64_w]; rfl) ?_
         refine pS 4 (some 27) rfl rfl (any_of HT_.out (by kernel_rfl)) (fun _ _ _ h => h) (by rfl) (fun w' => by go_simp; with_reducible rfl) (by simp only [Act.put, List.setIfInBounds_toArray, List.set_cons_zero, List.set_cons_succ, i64_w]; rfl) ?_
         refine tS 3 (some 26) rfl rfl (take_ofW HT_.out HW_.out (by kernel_rfl)) (fun _ _ _ h => h) (by rfl) (by rintro w' ⟨s0, s1, s2⟩; go_simp; with_reducible rfl) hHeld (by simp only [Act.put, List.setIfInBounds_toArray, List.set_cons_zero, List.set_cons_succ, i64_w]; rfl) ?_
         refine tS 5 (some 28) rfl rfl (take_ofW HT_.out HW_.out (by kernel_rfl)) (fun _ _ _ h => h) (by rfl) (by rintro w' ⟨s0, s1, s2⟩; go_simp; with_reducible rfl) hHeld (by simp only [Act.put, List.setIfInBounds_toArray, List.set_cons_zero, List.set_cons_succ, i64_w]; rfl) ?_
         refine pS 6 (some 29) rfl rfl (any_of HT_.out (by kernel_rfl)) (fun _ _ _ h => h) (by rfl) (fun w' => by go_simp; with_reducible rfl) (by simp only [Act.put, List.setIfInBounds_toArray, List.set_cons_zero, List.set_cons_succ, i64_w]; rfl) ?_
         refine pS 7 (some 30) rfl rfl (any_of HT_.out (by kernel_rfl)) (fun _ _ _ h => h) (by rfl) (fun w' => by go_simp; with_reducible rfl) (by simp only [Act.put, List.setIfInBounds_toArray, List.set_cons_zero, List.set_cons_succ, i64_w]; rfl) ?_
         refine pU 8 (some 31) rfl rfl (any_of HT_.out (by kernel_rfl)) (fun _ _ _ h => h) (by rfl) (by simp only [Act.put, List.setIfInBounds_toArray, List.set_cons_zero, List.set_cons_succ, i64_w]; rfl) ?_
         refine pU 9 (some 32) rfl rfl (any_of HT_.out (by kernel_rfl)) (fun _ _ _ h => h) (by rfl) (by simp only [Act.put, List.setIfInBounds_toArray, List.set_cons_zero, List.set_cons_succ, i64_w]; rfl) ?_
         refine pU 10 (some 33) rfl rfl (any_of HT_.out (by kernel_rfl)) (fun _ _ _ h => h) (by rfl) (by simp only [Act.put, List.setIfInBounds_toArray, List.set_cons_zero, List.set_cons_succ, i64_w]; rfl) ?_
         refine pU 11 (some 34) rfl rfl (any_of HT_.out (by kernel_rfl)) (fun _ _ _ h => h) (by rfl) (by simp only [Act.put, List.setIfInBounds_toArray, List.set_cons_zero, List.set_cons_succ, i64_w]; rfl) ?_
         refine pU 12 (some 35) rfl rfl (any_of HT_.out (by kernel_rfl)) (fun _ _ _ h => h) (by rfl) (by simp only [Act.put, List.setIfInBounds_toArray, List.set_cons_zero, List.set_cons_succ, i64_w]; rfl) ?_
         refine pU 13 (some 36) rfl rfl (any_of HT_.out (by kernel_rfl)) (fun _ _ _ h => h) (by rfl) (by simp only [Act.put, List.setIfInBounds_toArray, List.set_cons_zero, List.set_cons_succ, i64_w]; rfl) ?_
         refine pU 14 (some 37) rfl rfl (any_of HT_.out (by kernel_rfl)) (fun _ _ _ h => h) (by rfl) (by simp only [Act.put, List.setIfInBounds_toArray, List.set_cons_zero, List.set_cons_succ, i64_w]; rfl) ?_
         refine pS 15 (some 38) rfl rfl (any_of HT_.out (by kernel_rfl)) (fun _ _ _ h => h) (by rfl) (fun w' => by go_simp; with_reducible rfl) (by simp only [Act.put, List.setIfInBounds_toArray, List.set_cons_zero, List.set_cons_succ, i64_w]; rfl) ?_
         refine done_ (done_of HT_.out (by kernel_rfl)) ?_
         try go_wp2
         go_meet
         case rel => exact ⟨_, (true), (by first | rfl | (simp; done) | (simp [*]; done)), H', ⟨by have := HK1.out; first | omega | exact Nat.le_refl _⟩, inferInstance, inferInstance, inferInstance⟩
        ·
         rw [if_neg c17] at H
         have c17b0 : decide ((rd l3 x14_1) < t280) = false := decide_eq_false c17
         clear c17
         have H' := Aside0.mk H
         clear H
         try go_wp2
         have n0_ : Bk ((w13.setCell ⟨gb282, 0, none⟩ (.int .i64 t280)).setCell ⟨gb282, 1, none⟩ (.int .i64 t281)) gb278 (.cells #[.int .i64 a0_0, .int .i64 a0_1, .slice A0_2 l0_2.length c0_2] 24 (0, 0)) := ⟨bko gb278 (by rfl)⟩
         have n1_ : Bk ((w13.setCell ⟨gb282, 0, none⟩ (.int .i64 t280)).setCell ⟨gb282, 1, none⟩ (.int .i64 t281)) gb282 (.cells #[.int .i64 t280, .int .i64 t281] 103 (0, 0)) := ⟨bko gb282 (by rfl)⟩
         have n2_ : Bw w ((w13.setCell ⟨gb282, 0, none⟩ (.int .i64 t280)).setCell ⟨gb282, 1, none⟩ (.int .i64 t281)) := inferInstance
         (try clear BK278)
         (try clear BK282)
         (try clear HB)
         generalize ((w13.setCell ⟨gb282, 0, none⟩ (.int .i64 t280)).setCell ⟨gb282, 1, none⟩ (.int .i64 t281)) = w20 at n0_ n1_ n2_ ⊢
         have BK278 := n0_
         have BK282 := n1_
         have HB := n2_
         clear n0_ n1_ n2_
         have n0_ := Bk.mk (blk_drew BK278.out)
         have n1_ := Bk.mk (blk_drew BK282.out)
         have n2_ := Bw.mk (below_drew1 HB.out)
         clear BK278 BK282 HB
         have BK278 := n0_
         have BK282 := n1_
         have HB := n2_
         clear n0_ n1_ n2_
         have p283 : 0 ≤ (x14_1 : Int) := of_decide_eq_true (by first | (with_reducible assumption) | assumption)
         have q283 : x14_1 < (l3.length : Int) := of_decide_eq_true (by first | (with_reducible assumption) | assumption)
         obtain ⟨ad283, e283, hx283_0⟩ := Kd.at_int HR3.out x14_1 p283 q283
         have hw283_0 := hx283_0
         cases e283
         replace hx283_0 := cB HB hx283_0
         replace p283 := eq_true p283
         replace q283 := eq_true q283
         have p284 : 0 ≤ (x14_1 : Int) := of_decide_eq_true (by first | (with_reducible assumption) | assumption)
         have q284 : x14_1 < (l3.length : Int) := of_decide_eq_true (by first | (with_reducible assumption) | assumption)
         obtain ⟨ad284, e284, hx284_0⟩ := Kd.at_int HR3.out x14_1 p284 q284
         have hw284_0 := hx284_0
         obtain rfl : ad283 = ad284 := (by injection e284)
         replace hx284_0 := cB HB hx284_0
         replace p284 := eq_true p284
         replace q284 := eq_true q284
         refine start_ (n := 16) (S := fun w' => w'.cell? ⟨gb282, 0, none⟩ = some (.int .i64 t280) ∧ w'.cell? ⟨gb282, 1, none⟩ = some (.int .i64 t281) ∧ w'.cell? (ad283.add (x14_1).toNat) = some (.int .i64 (rd l3 x14_1)) ∧ w'.cell? (ad283.add (x14_1).toNat) = some (.int .i64 (rd l3 x14_1))) (ds := []) #[false, false, false, false, false, false, false, false, false, false, false, false, false, false, false, false] (by kernel_rfl) rfl rfl ⟨bc BK282 0, bc BK282 1, ((HB.out.cell (World.block_lt_of_cell? w _ hw283_0)).trans hw283_0), ((HB.out.cell (World.block_lt_of_cell? w _ hw284_0)).trans hw284_0)⟩ (fun hHeld => ?_); refine with_tabW course_possible.tab5 course_possible.bits5 (fun HT_ HW_ => ?_)
         generalize w20.drew = w21 at BK278 BK282 HB hx283_0 hx284_0 hHeld ⊢
         refine pS 0 (some 23) rfl rfl (any_of HT_.out (by kernel_rfl)) (fun _ _ _ h => h) (by rfl) (fun w' => by go_simp; with_reducible rfl) (by simp only [Act.put, List.setIfInBounds_toArray, List.set_cons_zero, List.set_cons_succ, i64_w]; rfl) ?_
         refine pS 1 (some 24) rfl rfl (any_of HT_.out (by kernel_rfl)) (fun _ _ _ h => h) (by rfl) (fun w' => by go_simp; with_reducible rfl) (by simp only [Act.put, List.setIfInBounds_toArray, List.set_cons_zero, List.set_cons_succ, i64_w]; rfl) ?_
         refine pS 2 (some 25) rfl rfl (any_of HT_.out (by kernel_rfl)) (fun _ _ _ h => h) (by rfl) (fun w' => by go_simp; with_reducible rfl) (by simp only [Act.put, List.setIfInBounds_toArray, List.set_cons_zero, List.set_cons_succ, i64_w]; rfl) ?_
         refine pS 4 (some 27) rfl rfl (any_of HT_.out (by kernel_rfl)) (fun _ _ _ h => h) (by rfl) (fun w' => by go_simp; with_reducible rfl) (by simp only [Act.put, List.setIfInBounds_toArray, List.set_cons_zero, List.set_cons_succ, i64_w]; rfl) ?_
         refine tS 3 (some 26) rfl rfl (take_ofW HT_.out HW_.out (by kernel_rfl)) (fun _ _ _ h => h) (by rfl) (by rintro w' ⟨s0, s1, s2, s3⟩; go_simp; with_reducible rfl) hHeld (by simp only [Act.put, List.setIfInBounds_toArray, List.set_cons_zero, List.set_cons_succ, i64_w]; rfl) ?_
         refine tS 5 (some 28) rfl rfl (take_ofW HT_.out HW_.out (by kernel_rfl)) (fun _ _ _ h => h) (by rfl) (by rintro w' ⟨s0, s1, s2, s3⟩; go_simp; with_reducible rfl) hHeld (by simp only [Act.put, List.setIfInBounds_toArray, List.set_cons_zero, List.set_cons_succ, i64_w]; rfl) ?_
         refine pS 6 (some 29) rfl rfl (any_of HT_.out (by kernel_rfl)) (fun _ _ _ h => h) (by rfl) (fun w' => by go_simp; with_reducible rfl) (by simp only [Act.put, List.setIfInBounds_toArray, List.set_cons_zero, List.set_cons_succ, i64_w]; rfl) ?_
         refine pS 7 (some 30) rfl rfl (any_of HT_.out (by kernel_rfl)) (fun _ _ _ h => h) (by rfl) (fun w' => by go_simp; with_reducible rfl) (by simp only [Act.put, List.setIfInBounds_toArray, List.set_cons_zero, List.set_cons_succ, i64_w]; rfl) ?_
         refine pS 8 (some 31) rfl rfl (any_of HT_.out (by kernel_rfl)) (fun _ _ _ h => h) (by rfl) (fun w' => by go_simp; with_reducible rfl) (by simp only [Act.put, List.setIfInBounds_toArray, List.set_cons_zero, List.set_cons_succ, i64_w]; rfl) ?_
         refine pS 9 (some 32) rfl rfl (any_of HT_.out (by kernel_rfl)) (fun _ _ _ h => h) (by rfl) (fun w' => by go_simp; with_reducible rfl) (by simp only [Act.put, List.setIfInBounds_toArray, List.set_cons_zero, List.set_cons_succ, i64_w]; rfl) ?_
         refine pS 10 (some 33) rfl rfl (any_of HT_.out (by kernel_rfl)) (fun _ _ _ h => h) (by rfl) (fun w' => by go_simp; with_reducible rfl) (by simp only [Act.put, List.setIfInBounds_toArray, List.set_cons_zero, List.set_cons_succ, i64_w]; rfl) ?_
         refine pS 12 (some 35) rfl rfl (any_of HT_.out (by kernel_rfl)) (fun _ _ _ h => h) (by rfl) (fun w' => by go_simp; with_reducible rfl) (by simp only [Act.put, List.setIfInBounds_toArray, List.set_cons_zero, List.set_cons_succ, i64_w]; rfl) ?_
         refine tS 11 (some 34) rfl rfl (take_ofW HT_.out HW_.out (by kernel_rfl)) (fun _ _ _ h => h) (by rfl) (by rintro w' ⟨s0, s1, s2, s3⟩; go_simp; with_reducible rfl) hHeld (by simp only [Act.put, List.setIfInBounds_toArray, List.set_cons_zero, List.set_cons_succ, i64_w]; rfl) ?_
         refine tS 13 (some 36) rfl rfl (take_ofW HT_.out HW_.out (by kernel_rfl)) (fun _ _ _ h => h) (by rfl) (by rintro w' ⟨s0, s1, s2, s3⟩; go_simp; with_reducible rfl) hHeld (by simp only [Act.put, List.setIfInBounds_toArray, List.set_cons_zero, List.set_cons_succ, i64_w]; rfl) ?_
         refine pS 14 (some 37) rfl rfl (any_of HT_.out (by kernel_rfl)) (fun _ _ _ h => h) (by rfl) (fun w' => by go_simp; with_reducible rfl) (by simp only [Act.put, List.setIfInBounds_toArray, List.set_cons_zero, List.set_cons_succ, i64_w]; rfl) ?_
         refine pS 15 (some 38) rfl rfl (any_of HT_.out (by kernel_rfl)) (fun _ _ _ h => h) (by rfl) (fun w' => by go_simp; with_reducible rfl) (by simp only [Act.put, List.setIfInBounds_toArray, List.set_cons_zero, List.set_cons_succ, i64_w]; rfl) ?_
         refine done_ (done_of HT_.out (by kernel_rfl)) ?_
         try go_wp2
         go_meet
         case rel => exact ⟨_, (decide ((rd l3 x14_1) > t281)), (by first | rfl | (simp; done) | (simp [*]; done)), H', ⟨by have := HK1.out; first | omega | exact Nat.le_refl _⟩, inferInstance, inferInstance, inferInstance⟩
       ·
        rw [if_neg c16] at H
        exact absurd H (by simp)
      case rest =>
       clear HC10
       try clear c1
       try clear c2
       try clear p2
       try clear q2
       try clear hx2
       try clear c3
       try clear c6
       try clear c6b0
       try clear c7
       try clear c7b0
       try clear c8
       try clear c8b0
       try clear c9
       try clear c14
       try clear c16
       try clear c16b0
       try clear c17
       try clear c17b0
       try clear hx279_0
       try clear hx283_0
       try clear hx284_0
       try clear p2
       try clear p279
       try clear p283
       try clear p284
       try clear q279
       try clear q283
       try clear q284
       obtain ⟨kq, x38_9, rfl, HA, HJ9, BK278, BK282, HB⟩ := hcut
       cases kq with
       | zero => exact absurd HA.out (by simp [course_possible.j1])
       | succ kj9 =>
        have H := HA.out
        clear HA
        simp only [course_possible.j1] at H
        by_cases c22 : x38_9 = true
        ·
         subst c22
         rw [if_pos rfl] at H
         obtain rfl := Option.some.inj H
         go_wp2
         go_ret
         exact ⟨by first | rfl | (simp [errW_none, errW_some] <;> rfl) | (simp [*, errW_none, errW_some] <;> rfl), bw w⟩
        ·
         replace c22 := Bool.eq_false_iff.mpr c22
         subst c22
         rw [if_neg (show ¬ (false = true) by decide)] at H
         by_cases c23 : x14_1 > 0
         ·
          rw [if_pos c23] at H
          have c23b0 : decide (0 < x14_1) = true := decide_eq_true c23
          clear c23
          obtain ⟨ji24, hji24⟩ : ∃ j_ : Int, (wrap64 (x14_1 - 1)) = j_ := ⟨_, rfl⟩
          replace H : (if 0 ≤ (ji24) then (if (ji24) < (l3.length : Int) then (if 0 ≤ x14_1 then (if x14_1 < (l3.length : Int) then (if (ji24) < (l2.length : Int) then ((course_within.f (rd l3 (ji24)) (rd l3 x14_1) (wrap64 (a0_1 * (wrap64 ((rd l2 x14_1) - (rd l2 (ji24))))))).bind fun t288 => (if t288 = true then (course_possible.l0 kj9 a1 l2 l3 l2 (l2.length : Int) (wrap64 (x14_1 + 1)) a0_0 a0_1 l0_2) else (some false))) else (none)) else (none)) else (none)) else (none)) else (none)) = some r := by first | (rw [hji24] at H; exact H) | (simp only [hji24] at H ⊢; exact H)
          have hji24w : (IntKind.i64.wrap (x14_1 - 1)) = ji24 := (i64_w _).trans hji24
          by_cases c25 : 0 ≤ (ji24)
          ·
           rw [if_pos c25] at H
           have c25b0 : decide (0 ≤ (ji24)) = true := decide_eq_true c25
           clear c25
           by_cases c26 : (ji24) < (l3.length : Int)
           ·
            rw [if_pos c26] at H
            have c26b0 : decide ((ji24) < (l3.length : Int)) = true := decide_eq_true c26
            clear c26
            by_cases c27 : 0 ≤ x14_1
            ·
             rw [if_pos c27] at H
             have c27b0 : decide (0 ≤ x14_1) = true := decide_eq_true c27
             clear c27
             by_cases c28 : x14_1 < (l3.length : Int)
             ·
              rw [if_pos c28] at H
              have c28b0 : decide (x14_1 < (l3.length : Int)) = true := decide_eq_true c28
              clear c28
              by_cases c29 : (ji24) < (l2.length : Int)
              ·
               rw [if_pos c29] at H
               have c29b0 : decide ((ji24) < (l2.length : Int)) = true := decide_eq_true c29
               clear c29
               replace H := Option.bind_eq_some_iff.mp H
               obtain ⟨t288, A300, H⟩ := H
               have A30 := Aside0.mk (A300)
               clear A300
               by_cases c31 : t288 = true
               ·
                subst c31
                rw [if_pos rfl] at H
                have H' := Aside0.mk H
                clear H
                try go_wp2
                have n0_ := Bk.mk (blk_drew BK278.out)
                have n1_ := Bk.mk (blk_drew BK282.out)
                have n2_ := Bw.mk (below_drew1 HB.out)
                clear BK278 BK282 HB
                have BK278 := n0_
                have BK282 := n1_
                have HB := n2_
                clear n0_ n1_ n2_
                have p285 : 0 ≤ ((ji24) : Int) := of_decide_eq_true (by first | (with_reducible assumption) | assumption)
                have q285 : (ji24) < (l3.length : Int) := of_decide_eq_true (by first | (with_reducible assumption) | assumption)
                obtain ⟨ad285, e285, hx285_0⟩ := Kd.at_int HR3.out (ji24) p285 q285
                have hw285_0 := hx285_0
                cases e285
                replace hx285_0 := cB HB hx285_0
                replace p285 := eq_true p285
                replace q285 := eq_true q285
                have p286 : 0 ≤ (x14_1 : Int) := of_decide_eq_true (by first | (with_reducible assumption) | assumption)
                have q286 : x14_1 < (l3.length : Int) := of_decide_eq_true (by first | (with_reducible assumption) | assumption)
                obtain ⟨ad286, e286, hx286_0⟩ := Kd.at_int HR3.out x14_1 p286 q286
                have hw286_0 := hx286_0
                obtain rfl : ad285 = ad286 := (by injection e286)
                replace hx286_0 := cB HB hx286_0
                replace p286 := eq_true p286
                replace q286 := eq_true q286
                have p287 : 0 ≤ ((ji24) : Int) := of_decide_eq_true (by first | (with_reducible assumption) | assumption)
                have q287 : (ji24) < (l2.length : Int) := of_decide_eq_true (by first | (with_reducible assumption) | assumption)
                obtain ⟨ad287, e287, hx287_0⟩ := Kd.at_int HR2.out (ji24) p287 q287
                have hw287_0 := hx287_0
                obtain rfl : ad279 = ad287 := (by injection e287)
                replace hx287_0 := cB HB hx287_0
                replace p287 := eq_true p287
                replace q287 := eq_true q287
                refine start_ (n := 25) (S := fun w' => w'.cell? ⟨gb278, 0, none⟩ = some (.int .i64 a0_0) ∧ w'.cell? ⟨gb278, 1, none⟩ = some (.int .i64 a0_1) ∧ w'.cell? ⟨gb278, 2, none⟩ = some (.slice A0_2 l0_2.length c0_2) ∧ w'.cell? (ad285.add ((ji24)).toNat) = some (.int .i64 (rd l3 (ji24))) ∧ w'.cell? (ad285.add (x14_1).toNat) = some (.int .i64 (rd l3 x14_1)) ∧ w'.cell? (ad279.add ((ji24)).toNat) = some (.int .i64 (rd l2 (ji24)))) (ds := []) #[false, false, false, false, false, false, false, false, false, false, false, false, false, false, false, false, false, false, false, false, false, false, false, false, false] (by kernel_rfl) rfl rfl ⟨bc BK278 0, bc BK278 1, bc BK278 2, ((HB.out.cell (World.block_lt_of_cell? w _ hw285_0)).trans hw285_0), ((HB.out.cell (World.block_lt_of_cell? w _ hw286_0)).trans hw286_0), ((HB.out.cell (World.block_lt_of_cell? w _ hw287_0)).trans hw287_0)⟩ (fun hHeld => ?_); refine with_tabW course_possible.tab7 course_possible.bits7 (fun HT_ HW_ => ?_)
                generalize wc.drew = w32 at BK278 BK282 HB hx285_0 hx286_0 hx287_0 hHeld ⊢
                refine pS 0 (some 39) rfl rfl (any_of HT_.out (by kernel_rfl)) (fun _ _ _ h => h) (by rfl) (fun w' => by go_simp; with_reducible rfl) (by simp only [Act.put, List.setIfInBounds_toArray, List.set_cons_zero, List.set_cons_succ, i64_w]; rfl) ?_
                refine pS 1 (some 40) rfl rfl (any_of HT_.out (by kernel_rfl)) (fun _ _ _ h => h) (by rfl) (fun w' => by go_simp; with_reducible rfl) (by simp only [Act.put, List.setIfInBounds_toArray, List.set_cons_zero, List.set_cons_succ, i64_w]; rfl) ?_
                refine pS 2 (some 41) rfl rfl (any_of HT_.out (by kernel_rfl)) (fun _ _ _ h => h) (by rfl) (fun w' => by go_simp; with_reducible rfl) (by simp only [Act.put, List.setIfInBounds_toArray, List.set_cons_zero, List.set_cons_succ, i64_w]; rfl) ?_
                refine pS 3 (some 42) rfl rfl (any_of HT_.out (by kernel_rfl)) (fun _ _ _ h => h) (by rfl) (fun w' => by go_simp; with_reducible rfl) (by simp only [Act.put, List.setIfInBounds_toArray, List.set_cons_zero, List.set_cons_succ, i64_w]; rfl) ?_
                refine pS 4 (some 43) rfl rfl (any_of HT_.out (by kernel_rfl)) (fun _ _ _ h => h) (by rfl) (fun w' => by go_simp; with_reducible rfl) (by simp only [Act.put, List.setIfInBounds_toArray, List.set_cons_zero, List.set_cons_succ, i64_w]; rfl) ?_
                refine pS 5 (some 44) rfl rfl (any_of HT_.out (by kernel_rfl)) (fun _ _ _ h => h) (by rfl) (fun w' => by go_simp; with_reducible rfl) (by simp only [Act.put, List.setIfInBounds_toArray, List.set_cons_zero, List.set_cons_succ, i64_w]; rfl) ?_
                refine pS 6 (some 45) rfl rfl (any_of HT_.out (by kernel_rfl)) (fun _ _ _ h => h) (by rfl) (fun w' => by go_simp; with_reducible rfl) (by simp only [Act.put, List.setIfInBounds_toArray, List.set_cons_zero, List.set_cons_succ, i64_w]; rfl) ?_
                refine pS 8 (some 47) rfl rfl (any_of HT_.out (by kernel_rfl)) (fun _ _ _ h => h) (by rfl) (fun w' => by go_simp; with_reducible rfl) (by simp only [Act.put, List.setIfInBounds_toArray, List.set_cons_zero, List.set_cons_succ, i64_w]; rfl) ?_
                refine pS 9 (some 48) rfl rfl (any_of HT_.out (by kernel_rfl)) (fun _ _ _ h => h) (by rfl) (fun w' => by go_simp; with_reducible rfl) (by simp only [Act.put, List.setIfInBounds_toArray, List.set_cons_zero, List.set_cons_succ, i64_w]; rfl) ?_
                refine pS 10 (some 49) rfl rfl (any_of HT_.out (by kernel_rfl)) (fun _ _ _ h => h) (by rfl) (fun w' => by go_simp; with_reducible rfl) (by simp only [Act.put, List.setIfInBounds_toArray, List.set_cons_zero, List.set_cons_succ, i64_w]; rfl) ?_
                refine pS 12 (some 51) rfl rfl (any_of HT_.out (by kernel_rfl)) (fun _ _ _ h => h) (by rfl) (fun w' => by go_simp; with_reducible rfl) (by simp only [Act.put, List.setIfInBounds_toArray, List.set_cons_zero, List.set_cons_succ, i64_w]; rfl) ?_
                refine pS 14 (some 53) rfl rfl (any_of HT_.out (by kernel_rfl)) (fun _ _ _ h => h) (by rfl) (fun w' => by go_simp; with_reducible rfl) (by simp only [Act.put, List.setIfInBounds_toArray, List.set_cons_zero, List.set_cons_succ, i64_w]; rfl) ?_
                refine pS 15 (some 54) rfl rfl (any_of HT_.out (by kernel_rfl)) (fun _ _ _ h => h) (by rfl) (fun w' => by go_simp; with_reducible rfl) (by simp only [Act.put, List.setIfInBounds_toArray, List.set_cons_zero, List.set_cons_succ, i64_w]; rfl) ?_
                refine pS 16 (some 55) rfl rfl (any_of HT_.out (by kernel_rfl)) (fun _ _ _ h => h) (by rfl) (fun w' => by go_simp; with_reducible rfl) (by simp only [Act.put, List.setIfInBounds_toArray, List.set_cons_zero, List.set_cons_succ, i64_w]; rfl) ?_
                refine pS 17 (some 56) rfl rfl (any_of HT_.out (by kernel_rfl)) (fun _ _ _ h => h) (by rfl) (fun w' => by go_simp; with_reducible rfl) (by simp only [Act.put, List.setIfInBounds_toArray, List.set_cons_zero, List.set_cons_succ, i64_w]; rfl) ?_
                refine pS 18 (some 57) rfl rfl (any_of HT_.out (by kernel_rfl)) (fun _ _ _ h => h) (by rfl) (fun w' => by go_simp; with_reducible rfl) (by simp only [Act.put, List.setIfInBounds_toArray, List.set_cons_zero, List.set_cons_succ, i64_w]; rfl) ?_
                refine tS 7 (some 46) rfl rfl (take_ofW HT_.out HW_.out (by kernel_rfl)) (fun _ _ _ h => h) (by rfl) (by rintro w' ⟨s0, s1, s2, s3, s4, s5⟩; go_simp; with_reducible rfl) hHeld (by simp only [Act.put, List.setIfInBounds_toArray, List.set_cons_zero, List.set_cons_succ, i64_w]; rfl) ?_
                refine tS 11 (some 50) rfl rfl (take_ofW HT_.out HW_.out (by kernel_rfl)) (fun _ _ _ h => h) (by rfl) (by rintro w' ⟨s0, s1, s2, s3, s4, s5⟩; go_simp; with_reducible rfl) hHeld (by simp only [Act.put, List.setIfInBounds_toArray, List.set_cons_zero, List.set_cons_succ, i64_w]; rfl) ?_
                refine tS 13 (some 52) rfl rfl (take_ofW HT_.out HW_.out (by kernel_rfl)) (fun _ _ _ h => h) (by rfl) (by rintro w' ⟨s0, s1, s2, s3, s4, s5⟩; go_simp; with_reducible rfl) hHeld (by simp only [Act.put, List.setIfInBounds_toArray, List.set_cons_zero, List.set_cons_succ, i64_w]; rfl) ?_
                refine tS 19 (some 58) rfl rfl (take_ofW HT_.out HW_.out (by kernel_rfl)) (fun _ _ _ h => h) (by rfl) (by rintro w' ⟨s0, s1, s2, s3, s4, s5⟩; go_simp; with_reducible rfl) hHeld (by simp only [Act.put, List.setIfInBounds_toArray, List.set_cons_zero, List.set_cons_succ, i64_w]; rfl) ?_
                refine pS 20 (some 59) rfl rfl (any_of HT_.out (by kernel_rfl)) (fun _ _ _ h => h) (by rfl) (fun w' => by go_simp; with_reducible rfl) (by simp only [Act.put, List.setIfInBounds_toArray, List.set_cons_zero, List.set_cons_succ, i64_w]; rfl) ?_
                refine pS 21 (some 60) rfl rfl (any_of HT_.out (by kernel_rfl)) (fun _ _ _ h => h) (by rfl) (fun w' => by go_simp; with_reducible rfl) (by simp only [Act.put, List.setIfInBounds_toArray, List.set_cons_zero, List.set_cons_succ, i64_w]; rfl) ?_
                refine one_ (i := 22) (N := some 61) #[true, true, true, true, true, true, true, true, true, true, true, true, true, true, true, true, true, true, true, true, true, true, true, false, false] rfl rfl (one_of HT_.out (by kernel_rfl)) (by decide) (fun K hK => ?_)
                refine goes_ Tryd.func132 (by kernel_rfl) rfl #[.int .i64 (rd l3 (ji24)), .int .i64 (rd l3 x14_1), .int .i64 (wrap64 (a0_1 * (wrap64 ((rd l2 x14_1) - (rd l2 (ji24))))))] (by rfl) rfl rfl (by (try simp only [List.map_toArray, List.map_cons, List.map_nil]); first | done | (simp only [hji24]; rfl) | rfl | (simp only [List.length_drop, List.length_take]; rfl)) ?_
                with_reducible refine (course_within.calls (rd l3 (ji24)) (rd l3 x14_1) (wrap64 (a0_1 * (wrap64 ((rd l2 x14_1) - (rd l2 (ji24)))))) true _ A30.out).mono ?_
                rintro e w33 ⟨rfl, hb⟩
                refine ⟨_, rfl, ?_⟩
                replace BK278 := kB gb278 hb
                replace BK282 := kB gb282 hb
                replace HB := bS w hb
                (try clear hb)
                refine hK.out _ _ ⟨bc BK278 0, bc BK278 1, bc BK278 2, ((HB.out.cell (World.block_lt_of_cell? w _ hw285_0)).trans hw285_0), ((HB.out.cell (World.block_lt_of_cell? w _ hw286_0)).trans hw286_0), ((HB.out.cell (World.block_lt_of_cell? w _ hw287_0)).trans hw287_0)⟩ (fun hHeld => ?_)
                clear hK K
                refine norm_ (a' := ?_) ?_ ?_
                rotate_left
                ·
                 show Act.put _ (some 61) _ = _
                 simp only [Act.put, List.setIfInBounds_toArray, List.set_cons_zero, List.set_cons_succ, i64_w]
                 rfl
                refine pS 23 (some 62) rfl rfl (any_of HT_.out (by kernel_rfl)) (fun _ _ _ h => h) (by rfl) (fun w' => by go_simp; with_reducible rfl) (by simp only [Act.put, List.setIfInBounds_toArray, List.set_cons_zero, List.set_cons_succ, i64_w]; rfl) ?_
                refine pS 24 (some 63) rfl rfl (any_of HT_.out (by kernel_rfl)) (fun _ _ _ h => h) (by rfl) (fun w' => by go_simp; with_reducible rfl) (by simp only [Act.put, List.setIfInBounds_toArray, List.set_cons_zero, List.set_cons_succ, i64_w]; rfl) ?_
                refine done_ (done_of HT_.out (by kernel_rfl)) ?_
                try go_wp2
                go_roundg kj9
                case measure => have := HK1.out; have := HJ9.out; omega
                case rel => exact ⟨(wrap64 (x14_1 + 1)), (by first | rfl | (simp; done) | (simp [*]; done)), H', ⟨by have := HK1.out; have := HJ9.out; omega⟩, inferInstance, inferInstance⟩
               ·
                replace c31 := Bool.eq_false_iff.mpr c31
                subst c31
                rw [if_neg (show ¬ (false = true) by decide)] at H
                obtain rfl := Option.some.inj H
                try go_wp2
                have n0_ := Bk.mk (blk_drew BK278.out)
                have n1_ := Bk.mk (blk_drew BK282.out)
                have n2_ := Bw.mk (below_drew1 HB.out)
                clear BK278 BK282 HB
                have BK278 := n0_
                have BK282 := n1_
                have HB := n2_
                clear n0_ n1_ n2_
                have p285 : 0 ≤ ((ji24) : Int) := of_decide_eq_true (by first | (with_reducible assumption) | assumption)
                have q285 : (ji24) < (l3.length : Int) := of_decide_eq_true (by first | (with_reducible assumption) | assumption)
                obtain ⟨ad285, e285, hx285_0⟩ := Kd.at_int HR3.out (ji24) p285 q285
                have hw285_0 := hx285_0
                cases e285
                replace hx285_0 := cB HB hx285_0
                replace p285 := eq_true p285
                replace q285 := eq_true q285
                have p286 : 0 ≤ (x14_1 : Int) := of_decide_eq_true (by first | (with_reducible assumption) | assumption)
                have q286 : x14_1 < (l3.length : Int) := of_decide_eq_true (by first | (with_reducible assumption) | assumption)
                obtain ⟨ad286, e286, hx286_0⟩ := Kd.at_int HR3.out x14_1 p286 q286
                have hw286_0 := hx286_0
                obtain rfl : ad285 = ad286 := (by injection e286)
                replace hx286_0 := cB HB hx286_0
                replace p286 := eq_true p286
                replace q286 := eq_true q286
                have p287 : 0 ≤ ((ji24) : Int) := of_decide_eq_true (by first | (with_reducible assumption) | assumption)
                have q287 : (ji24) < (l2.length : Int) := of_decide_eq_true (by first | (with_reducible assumption) | assumption)
                obtain ⟨ad287, e287, hx287_0⟩ := Kd.at_int HR2.out (ji24) p287 q287
                have hw287_0 := hx287_0
                obtain rfl : ad279 = ad287 := (by injection e287)
                replace hx287_0 := cB HB hx287_0
                replace p287 := eq_true p287
                replace q287 := eq_true q287
                refine start_ (n := 25) (S := fun w' => w'.cell? ⟨gb278, 0, none⟩ = some (.int .i64 a0_0) ∧ w'.cell? ⟨gb278, 1, none⟩ = some (.int .i64 a0_1) ∧ w'.cell? ⟨gb278, 2, none⟩ = some (.slice A0_2 l0_2.length c0_2) ∧ w'.cell? (ad285.add ((ji24)).toNat) = some (.int .i64 (rd l3 (ji24))) ∧ w'.cell? (ad285.add (x14_1).toNat) = some (.int .i64 (rd l3 x14_1)) ∧ w'.cell? (ad279.add ((ji24)).toNat) = some (.int .i64 (rd l2 (ji24)))) (ds := []) #[false, false, false, false, false, false, false, false, false, false, false, false, false, false, false, false, false, false, false, false, false, false, false, false, false] (by kernel_rfl) rfl rfl ⟨bc BK278 0, bc BK278 1, bc BK278 2, ((HB.out.cell (World.block_lt_of_cell? w _ hw285_0)).trans hw285_0), ((HB.out.cell (World.block_lt_of_cell? w _ hw286_0)).trans hw286_0), ((HB.out.cell (World.block_lt_of_cell? w _ hw287_0)).trans hw287_0)⟩ (fun hHeld => ?_); refine with_tabW course_possible.tab7 course_possible.bits7 (fun HT_ HW_ => ?_)
                generalize wc.drew = w34 at BK278 BK282 HB hx285_0 hx286_0 hx287_0 hHeld ⊢
                refine pS 0 (some 39) rfl rfl (any_of HT_.out (by kernel_rfl)) (fun _ _ _ h => h) (by rfl) (fun w' => by go_simp; with_reducible rfl) (by simp only [Act.put, List.setIfInBounds_toArray, List.set_cons_zero, List.set_cons_succ, i64_w]; rfl) ?_
                refine pS 1 (some 40) rfl rfl (any_of HT_.out (by kernel_rfl)) (fun _ _ _ h => h) (by rfl) (fun w' => by go_simp; with_reducible rfl) (by simp only [Act.put, List.setIfInBounds_toArray, List.set_cons_zero, List.set_cons_succ, i64_w]; rfl) ?_
                refine pS 2 (some 41) rfl rfl (any_of HT_.out (by kernel_rfl)) (fun _ _ _ h => h) (by rfl) (fun w' => by go_simp; with_reducible rfl) (by simp only [Act.put, List.setIfInBounds_toArray, List.set_cons_zero, List.set_cons_succ, i64_w]; rfl) ?_
                refine pS 3 (some 42) rfl rfl (any_of HT_.out (by kernel_rfl)) (fun _ _ _ h => h) (by rfl) (fun w' => by go_simp; with_reducible rfl) (by simp only [Act.put, List.setIfInBounds_toArray, List.set_cons_zero, List.set_cons_succ, i64_w]; rfl) ?_
                refine pS 4 (some 43) rfl rfl (any_of HT_.out (by kernel_rfl)) (fun _ _ _ h => h) (by rfl) (fun w' => by go_simp; with_reducible rfl) (by simp only [Act.put, List.setIfInBounds_toArray, List.set_cons_zero, List.set_cons_succ, i64_w]; rfl) ?_
                refine pS 5 (some 44) rfl rfl (any_of HT_.out (by kernel_rfl)) (fun _ _ _ h => h) (by rfl) (fun w' => by go_simp; with_reducible rfl) (by simp only [Act.put, List.setIfInBounds_toArray, List.set_cons_zero, List.set_cons_succ, i64_w]; rfl) ?_
                refine pS 6 (some 45) rfl rfl (any_of HT_.out (by kernel_rfl)) (fun _ _ _ h => h) (by rfl) (fun w' => by go_simp; with_reducible rfl) (by simp only [Act.put, List.setIfInBounds_toArray, List.set_cons_zero, List.set_cons_succ, i64_w]; rfl) ?_
                refine pS 8 (some 47) rfl rfl (any_of HT_.out (by kernel_rfl)) (fun _ _ _ h => h) (by rfl) (fun w' => by go_simp; with_reducible rfl) (by simp only [Act.put, List.setIfInBounds_toArray, List.set_cons_zero, List.set_cons_succ, i64_w]; rfl) ?_
                refine pS 9 (some 48) rfl rfl (any_of HT_.out (by kernel_rfl)) (fun _ _ _ h => h) (by rfl) (fun w' => by go_simp; with_reducible rfl) (by simp only [Act.put, List.setIfInBounds_toArray, List.set_cons_zero, List.set_cons_succ, i64_w]; rfl) ?_
                refine pS 10 (some 49) rfl rfl (any_of HT_.out (by kernel_rfl)) (fun _ _ _ h => h) (by rfl) (fun w' => by go_simp; with_reducible rfl) (by simp only [Act.put, List.setIfInBounds_toArray, List.set_cons_zero, List.set_cons_succ, i64_w]; rfl) ?_
                refine pS 12 (some 51) rfl rfl (any_of HT_.out (by kernel_rfl)) (fun _ _ _ h => h) (by rfl) (fun w' => by go_simp; with_reducible rfl) (by simp only [Act.put, List.setIfInBounds_toArray, List.set_cons_zero, List.set_cons_succ, i64_w]; rfl) ?_
                refine pS 14 (some 53) rfl rfl (any_of HT_.out (by kernel_rfl)) (fun _ _ _ h => h) (by rfl) (fun w' => by go_simp; with_reducible rfl) (by simp only [Act.put, List.setIfInBounds_toArray, List.set_cons_zero, List.set_cons_succ, i64_w]; rfl) ?_
                refine pS 15 (some 54) rfl rfl (any_of HT_.out (by kernel_rfl)) (fun _ _ _ h => h) (by rfl) (fun w' => by go_simp; with_reducible rfl) (by simp only [Act.put, List.setIfInBounds_toArray, List.set_cons_zero, List.set_cons_succ, i64_w]; rfl) ?_
                refine pS 16 (some 55) rfl rfl (any_of HT_.out (by kernel_rfl)) (fun _ _ _ h => h) (by rfl) (fun w' => by go_simp; with_reducible rfl) (by simp only [Act.put, List.setIfInBounds_toArray, List.set_cons_zero, List.set_cons_succ, i64_w]; rfl) ?_
                refine pS 17 (some 56) rfl rfl (any_of HT_.out (by kernel_rfl)) (fun _ _ _ h => h) (by rfl) (fun w' => by go_simp; with_reducible rfl) (by simp only [Act.put, List.setIfInBounds_toArray, List.set_cons_zero, List.set_cons_succ, i64_w]; rfl) ?_
                refine pS 18 (some 57) rfl rfl (any_of HT_.out (by kernel_rfl)) (fun _ _ _ h => h) (by rfl) (fun w' => by go_simp; with_reducible rfl) (by simp only [Act.put, List.setIfInBounds_toArray, List.set_cons_zero, List.set_cons_succ, i64_w]; rfl) ?_
                refine tS 7 (some 46) rfl rfl (take_ofW HT_.out HW_.out (by kernel_rfl)) (fun _ _ _ h => h) (by rfl) (by rintro w' ⟨s0, s1, s2, s3, s4, s5⟩; go_simp; with_reducible rfl) hHeld (by simp only [Act.put, List.setIfInBounds_toArray, List.set_cons_zero, List.set_cons_succ, i64_w]; rfl) ?_
                refine tS 11 (some 50) rfl rfl (take_ofW HT_.out HW_.out (by kernel_rfl)) (fun _ _ _ h => h) (by rfl) (by rintro w' ⟨s0, s1, s2, s3, s4, s5⟩; go_simp; with_reducible rfl) hHeld (by simp only [Act.put, List.setIfInBounds_toArray, List.set_cons_zero, List.set_cons_succ, i64_w]; rfl) ?_
                refine tS 13 (some 52) rfl rfl (take_ofW HT_.out HW_.out (by kernel_rfl)) (fun _ _ _ h => h) (by rfl) (by rintro w' ⟨s0, s1, s2, s3, s4, s5⟩; go_simp; with_reducible rfl) hHeld (by simp only [Act.put, List.setIfInBounds_toArray, List.set_cons_zero, List.set_cons_succ, i64_w]; rfl) ?_
                refine tS 19 (some 58) rfl rfl (take_ofW HT_.out HW_.out (by kernel_rfl)) (fun _ _ _ h => h) (by rfl) (by rintro w' ⟨s0, s1, s2, s3, s4, s5⟩; go_simp; with_reducible rfl) hHeld (by simp only [Act.put, List.setIfInBounds_toArray, List.set_cons_zero, List.set_cons_succ, i64_w]; rfl) ?_
                refine pS 20 (some 59) rfl rfl (any_of HT_.out (by kernel_rfl)) (fun _ _ _ h => h) (by rfl) (fun w' => by go_simp; with_reducible rfl) (by simp only [Act.put, List.setIfInBounds_toArray, List.set_cons_zero, List.set_cons_succ, i64_w]; rfl) ?_
                refine pS 21 (some 60) rfl rfl (any_of HT_.out (by kernel_rfl)) (fun _ _ _ h => h) (by rfl) (fun w' => by go_simp; with_reducible rfl) (by simp only [Act.put, List.setIfInBounds_toArray, List.set_cons_zero, List.set_cons_succ, i64_w]; rfl) ?_
                refine one_ (i := 22) (N := some 61) #[true, true, true, true, true, true, true, true, true, true, true, true, true, true, true, true, true, true, true, true, true, true, true, false, false] rfl rfl (one_of HT_.out (by kernel_rfl)) (by decide) (fun K hK => ?_)
                refine goes_ Tryd.func132 (by kernel_rfl) rfl #[.int .i64 (rd l3 (ji24)), .int .i64 (rd l3 x14_1), .int .i64 (wrap64 (a0_1 * (wrap64 ((rd l2 x14_1) - (rd l2 (ji24))))))] (by rfl) rfl rfl (by (try simp only [List.map_toArray, List.map_cons, List.map_nil]); first | done | (simp only [hji24]; rfl) | rfl | (simp only [List.length_drop, List.length_take]; rfl)) ?_
                with_reducible refine (course_within.calls (rd l3 (ji24)) (rd l3 x14_1) (wrap64 (a0_1 * (wrap64 ((rd l2 x14_1) - (rd l2 (ji24)))))) false _ A30.out).mono ?_
                rintro e w35 ⟨rfl, hb⟩
                refine ⟨_, rfl, ?_⟩
                replace BK278 := kB gb278 hb
                replace BK282 := kB gb282 hb
                replace HB := bS w hb
                (try clear hb)
                refine hK.out _ _ ⟨bc BK278 0, bc BK278 1, bc BK278 2, ((HB.out.cell (World.block_lt_of_cell? w _ hw285_0)).trans hw285_0), ((HB.out.cell (World.block_lt_of_cell? w _ hw286_0)).trans hw286_0), ((HB.out.cell (World.block_lt_of_cell? w _ hw287_0)).trans hw287_0)⟩ (fun hHeld => ?_)
                clear hK K
                refine norm_ (a' := ?_) ?_ ?_
                rotate_left
                ·
                 show Act.put _ (some 61) _ = _
                 simp only [Act.put, List.setIfInBounds_toArray, List.set_cons_zero, List.set_cons_succ, i64_w]
                 rfl
                refine pS 23 (some 62) rfl rfl (any_of HT_.out (by kernel_rfl)) (fun _ _ _ h => h) (by rfl) (fun w' => by go_simp; with_reducible rfl) (by simp only [Act.put, List.setIfInBounds_toArray, List.set_cons_zero, List.set_cons_succ, i64_w]; rfl) ?_
                refine pS 24 (some 63) rfl rfl (any_of HT_.out (by kernel_rfl)) (fun _ _ _ h => h) (by rfl) (fun w' => by go_simp; with_reducible rfl) (by simp only [Act.put, List.setIfInBounds_toArray, List.set_cons_zero, List.set_cons_succ, i64_w]; rfl) ?_
                refine done_ (done_of HT_.out (by kernel_rfl)) ?_
                try go_wp2
                go_ret
                exact ⟨by first | rfl | (simp [errW_none, errW_some] <;> rfl) | (simp only [← hji24]; first | rfl | (simp [errW_none, errW_some] <;> rfl)) | (simp [*, errW_none, errW_some] <;> rfl), bw w⟩
              ·
               rw [if_neg c29] at H
               exact absurd H (by simp)
             ·
              rw [if_neg c28] at H
              exact absurd H (by simp)
            ·
             rw [if_neg c27] at H
             exact absurd H (by simp)
           ·
            rw [if_neg c26] at H
            exact absurd H (by simp)
          ·
           rw [if_neg c25] at H
           exact absurd H (by simp)
         ·
          rw [if_neg c23] at H
          have c23b0 : decide (0 < x14_1) = false := decide_eq_false c23
          clear c23
          have H' := Aside0.mk H
          clear H
          try go_wp2
          have n0_ := Bk.mk (blk_drew BK278.out)
          have n1_ := Bk.mk (blk_drew BK282.out)
          have n2_ := Bw.mk (below_drew1 HB.out)
          clear BK278 BK282 HB
          have BK278 := n0_
          have BK282 := n1_
          have HB := n2_
          clear n0_ n1_ n2_
          refine start_ (n := 25) (S := fun w' => True) (ds := []) #[false, false, false, false, false, false, false, false, false, false, false, false, false, false, false, false, false, false, false, false, false, false, false, false, false] (by kernel_rfl) rfl rfl trivial (fun hHeld => ?_); refine with_tabW course_possible.tab7 course_possible.bits7 (fun HT_ HW_ => ?_)
          generalize wc.drew = w36 at BK278 BK282 HB hHeld ⊢
          refine pS 0 (some 39) rfl rfl (any_of HT_.out (by kernel_rfl)) (fun _ _ _ h => h) (by rfl) (fun w' => by go_simp; with_reducible rfl) (by simp only [Act.put, List.setIfInBounds_toArray, List.set_cons_zero, List.set_cons_succ, i64_w]; rfl) ?_
          refine pS 1 (some 40) rfl rfl (any_of HT_.out (by kernel_rfl)) (fun _ _ _ h => h) (by rfl) (fun w' => by go_simp; with_reducible rfl) (by simp only [Act.put, List.setIfInBounds_toArray, List.set_cons_zero, List.set_cons_succ, i64_w]; rfl) ?_
          refine pS 2 (some 41) rfl rfl (any_of HT_.out (by kernel_rfl)) (fun _ _ _ h => h) (by rfl) (fun w' => by go_simp; with_reducible rfl) (by simp only [Act.put, List.setIfInBounds_toArray, List.set_cons_zero, List.set_cons_succ, i64_w]; rfl) ?_
          refine pU 3 (some 42) rfl rfl (any_of HT_.out (by kernel_rfl)) (fun _ _ _ h => h) (by rfl) (by simp only [Act.put, List.setIfInBounds_toArray, List.set_cons_zero, List.set_cons_succ, i64_w]; rfl) ?_
          refine pU 4 (some 43) rfl rfl (any_of HT_.out (by kernel_rfl)) (fun _ _ _ h => h) (by rfl) (by simp only [Act.put, List.setIfInBounds_toArray, List.set_cons_zero, List.set_cons_succ, i64_w]; rfl) ?_
          refine pU 5 (some 44) rfl rfl (any_of HT_.out (by kernel_rfl)) (fun _ _ _ h => h) (by rfl) (by simp only [Act.put, List.setIfInBounds_toArray, List.set_cons_zero, List.set_cons_succ, i64_w]; rfl) ?_
          refine pU 6 (some 45) rfl rfl (any_of HT_.out (by kernel_rfl)) (fun _ _ _ h => h) (by rfl) (by simp only [Act.put, List.setIfInBounds_toArray, List.set_cons_zero, List.set_cons_succ, i64_w]; rfl) ?_
          refine pU 7 (some 46) rfl rfl (any_of HT_.out (by kernel_rfl)) (fun _ _ _ h => h) (by rfl) (by simp only [Act.put, List.setIfInBounds_toArray, List.set_cons_zero, List.set_cons_succ, i64_w]; rfl) ?_
          refine pU 8 (some 47) rfl rfl (any_of HT_.out (by kernel_rfl)) (fun _ _ _ h => h) (by rfl) (by simp only [Act.put, List.setIfInBounds_toArray, List.set_cons_zero, List.set_cons_succ, i64_w]; rfl) ?_
          refine pU 9 (some 48) rfl rfl (any_of HT_.out (by kernel_rfl)) (fun _ _ _ h => h) (by rfl) (by simp only [Act.put, List.setIfInBounds_toArray, List.set_cons_zero, List.set_cons_succ, i64_w]; rfl) ?_
          refine pU 10 (some 49) rfl rfl (any_of HT_.out (by kernel_rfl)) (fun _ _ _ h => h) (by rfl) (by simp only [Act.put, List.setIfInBounds_toArray, List.set_cons_zero, List.set_cons_succ, i64_w]; rfl) ?_
          refine pU 11 (some 50) rfl rfl (any_of HT_.out (by kernel_rfl)) (fun _ _ _ h => h) (by rfl) (by simp only [Act.put, List.setIfInBounds_toArray, List.set_cons_zero, List.set_cons_succ, i64_w]; rfl) ?_
          refine pU 12 (some 51) rfl rfl (any_of HT_.out (by kernel_rfl)) (fun _ _ _ h => h) (by rfl) (by simp only [Act.put, List.setIfInBounds_toArray, List.set_cons_zero, List.set_cons_succ, i64_w]; rfl) ?_
          refine pU 13 (some 52) rfl rfl (any_of HT_.out (by kernel_rfl)) (fun _ _ _ h => h) (by rfl) (by simp only [Act.put, List.setIfInBounds_toArray, List.set_cons_zero, List.set_cons_succ, i64_w]; rfl) ?_
          refine pU 14 (some 53) rfl rfl (any_of HT_.out (by kernel_rfl)) (fun _ _ _ h => h) (by rfl) (by simp only [Act.put, List.setIfInBounds_toArray, List.set_cons_zero, List.set_cons_succ, i64_w]; rfl) ?_
          refine pU 15 (some 54) rfl rfl (any_of HT_.out (by kernel_rfl)) (fun _ _ _ h => h) (by rfl) (by simp only [Act.put, List.setIfInBounds_toArray, List.set_cons_zero, List.set_cons_succ, i64_w]; rfl) ?_
          refine pU 16 (some 55) rfl rfl (any_of HT_.out (by kernel_rfl)) (fun _ _ _ h => h) (by rfl) (by simp only [Act.put, List.setIfInBounds_toArray, List.set_cons_zero, List.set_cons_succ, i64_w]; rfl) ?_
          refine pU 17 (some 56) rfl rfl (any_of HT_.out (by kernel_rfl)) (fun _ _ _ h => h) (by rfl) (by simp only [Act.put, List.setIfInBounds_toArray, List.set_cons_zero, List.set_cons_succ, i64_w]; rfl) ?_
          refine pU 18 (some 57) rfl rfl (any_of HT_.out (by kernel_rfl)) (fun _ _ _ h => h) (by rfl) (by simp only [Act.put, List.setIfInBounds_toArray, List.set_cons_zero, List.set_cons_succ, i64_w]; rfl) ?_
          refine pU 19 (some 58) rfl rfl (any_of HT_.out (by kernel_rfl)) (fun _ _ _ h => h) (by rfl) (by simp only [Act.put, List.setIfInBounds_toArray, List.set_cons_zero, List.set_cons_succ, i64_w]; rfl) ?_
          refine pU 20 (some 59) rfl rfl (any_of HT_.out (by kernel_rfl)) (fun _ _ _ h => h) (by rfl) (by simp only [Act.put, List.setIfInBounds_toArray, List.set_cons_zero, List.set_cons_succ, i64_w]; rfl) ?_
          refine pU 21 (some 60) rfl rfl (any_of HT_.out (by kernel_rfl)) (fun _ _ _ h => h) (by rfl) (by simp only [Act.put, List.setIfInBounds_toArray, List.set_cons_zero, List.set_cons_succ, i64_w]; rfl) ?_
          refine pU 22 (some 61) rfl rfl (any_of HT_.out (by kernel_rfl)) (fun _ _ _ h => h) (by rfl) (by simp only [Act.put, List.setIfInBounds_toArray, List.set_cons_zero, List.set_cons_succ, i64_w]; rfl) ?_
          refine pU 23 (some 62) rfl rfl (any_of HT_.out (by kernel_rfl)) (fun _ _ _ h => h) (by rfl) (by simp only [Act.put, List.setIfInBounds_toArray, List.set_cons_zero, List.set_cons_succ, i64_w]; rfl) ?_
          refine pS 24 (some 63) rfl rfl (any_of HT_.out (by kernel_rfl)) (fun _ _ _ h => h) (by rfl) (fun w' => by go_simp; with_reducible rfl) (by simp only [Act.put, List.setIfInBounds_toArray, List.set_cons_zero, List.set_cons_succ, i64_w]; rfl) ?_
          refine done_ (done_of HT_.out (by kernel_rfl)) ?_
          try go_wp2
          go_roundg kj9
          case measure => have := HK1.out; have := HJ9.out; omega
          case rel => exact ⟨(wrap64 (x14_1 + 1)), (by first | rfl | (simp; done) | (simp [*]; done)), H', ⟨by have := HK1.out; have := HJ9.out; omega⟩, inferInstance, inferInstance⟩
     ·
      rw [if_neg c8] at H
      exact absurd H (by simp)
    ·
     rw [if_neg c7] at H
     exact absurd H (by simp)
   ·
    rw [if_neg c6] at H
    have c6b0 : decide (x14_1 < (l2.length : Int)) = false := decide_eq_false c6
    clear c6
    obtain rfl := Option.some.inj H
    go_wp2
    go_ret
    exact ⟨by first | rfl | (simp [errW_none, errW_some] <;> rfl) | (simp [*, errW_none, errW_some] <;> rfl), bw w⟩
mutual
def course_Extend.j0 : Nat → Int → List Int → List Int → List Int → Bool → Int → Int → List (S26) → Option (List Int × Bool × Int)
 | 0, _, _, _, _, _, _, _, _ => none
 | k + 1, x1, x2, x3, x4, x41, x290000, x290001, x290002 => if x41 = true then (some (([] : List Int), false, 1)) else ((course_possible.f k x290000 x290001 x290002 x1 x2 x3).bind fun t296 => (if t296 = true then (course_Extend.l0 k x1 x2 x3 ([] : List Int) x4 (x4.length : Int) 0 x290000 x290001 x290002) else (some (([] : List Int), false, 0))))
def course_Extend.l0 : Nat → Int → List Int → List Int → List Int → List Int → Int → Int → Int → Int → List (S26) → Option (List Int × Bool × Int)
 | 0, _, _, _, _, _, _, _, _, _, _ => none
 | k + 1, x1, x2, x3, x14, x48, x49, x50, x290000, x290001, x290002 => if x50 < x49 then (if 0 ≤ x50 then (if x50 < (x48.length : Int) then ((course_drift.f k x290000 x290001 x290002 (rd x48 x50) x1).bind fun bt298 => (course_Extend.l1 k x1 x2 x3 x14 (rd x48 x50) bt298.2 x48 x49 x50 x2 (x2.length : Int) 0 x290000 x290001 x290002)) else (none)) else (none)) else (some (x14, true, 0))
def course_Extend.l1 : Nat → Int → List Int → List Int → List Int → Int → Int → List Int → Int → Int → List Int → Int → Int → Int → Int → List (S26) → Option (List Int × Bool × Int)
 | 0, _, _, _, _, _, _, _, _, _, _, _, _, _, _, _ => none
 | k + 1, x1, x2, x3, x14, x16, x17, x48, x49, x50, x59, x60, x61, x290000, x290001, x290002 => if x61 < x60 then (if 0 ≤ x61 then (if x61 < (x59.length : Int) then (if x61 < (x3.length : Int) then ((course_apart.f (rd x59 x61) x16).bind fun t302 => (course_Extend.l1 k x1 x2 x3 x14 x16 (mn x17 (wrap64 ((rd x3 x61) + (wrap64 (x290001 * t302))))) x48 x49 x50 x59 x60 (wrap64 (x61 + 1)) x290000 x290001 x290002)) else (none)) else (none)) else (none)) else (if x14.length < 17592186044416 then (course_Extend.l0 k x1 x2 x3 (x14 ++ [x17]) x48 x49 (wrap64 (x50 + 1)) x290000 x290001 x290002) else (none))
end
def course_Extend.f (k : Nat) (a0_0 : Int) (a0_1 : Int) (l0_2 : List (S26)) (a1 : Int) (l2 : List Int) (l3 : List Int) (l4 : List Int) : Option (List Int × Bool × Int) := (course_ask.f k a0_0 a0_1 l0_2 (([a1] : List Int))).bind fun t293 => (if t293 = 0 then (if (l2.length : Int) = (l3.length : Int) then ((course_rising.f k l2).bind fun t294 => (if t294 = true then ((course_rising.f k l4).bind fun t295 => (course_Extend.j0 k a1 l2 l3 l4 (!t295) a0_0 a0_1 l0_2)) else (course_Extend.j0 k a1 l2 l3 l4 true a0_0 a0_1 l0_2))) else (course_Extend.j0 k a1 l2 l3 l4 true a0_0 a0_1 l0_2)) else (some (([] : List Int), false, t293)))
theorem course_Extend.mono_l : ∀ k, (∀ y0 y1 y2 y3 y4 y5 y6 y7, LeO (course_Extend.j0 k y0 y1 y2 y3 y4 y5 y6 y7) (course_Extend.j0 (k + 1) y0 y1 y2 y3 y4 y5 y6 y7)) ∧ (∀ y0 y1 y2 y3 y4 y5 y6 y7 y8 y9, LeO (course_Extend.l0 k y0 y1 y2 y3 y4 y5 y6 y7 y8 y9) (course_Extend.l0 (k + 1) y0 y1 y2 y3 y4 y5 y6 y7 y8 y9)) ∧ (∀ y0 y1 y2 y3 y4 y5 y6 y7 y8 y9 y10 y11 y12 y13 y14, LeO (course_Extend.l1 k y0 y1 y2 y3 y4 y5 y6 y7 y8 y9 y10 y11 y12 y13 y14) (course_Extend.l1 (k + 1) y0 y1 y2 y3 y4 y5 y6 y7 y8 y9 y10 y11 y12 y13 y14))
 | 0 => ⟨fun _ _ _ _ _ _ _ _ r h => by simp [course_Extend.j0] at h, fun _ _ _ _ _ _ _ _ _ _ r h => by simp [course_Extend.l0] at h, fun _ _ _ _ _ _ _ _ _ _ _ _ _ _ _ r h => by simp [course_Extend.l1] at h⟩
 | k + 1 => by
  obtain ⟨ih0, ih1, ih2⟩ := course_Extend.mono_l k
  refine ⟨?_, ?_, ?_⟩
  ·
   intro y0 y1 y2 y3 y4 y5 y6 y7
   unfold course_Extend.j0
   repeat' first
   | (with_reducible exact ih0 _ _ _ _ _ _ _ _)
   | (with_reducible exact ih1 _ _ _ _ _ _ _ _ _ _)
   | (with_reducible exact ih2 _ _ _ _ _ _ _ _ _ _ _ _ _ _ _)
   | (with_reducible exact course_ask.mono _ _ _ _ _)
   | (with_reducible exact course_drift.mono _ _ _ _ _ _)
   | (with_reducible exact course_possible.mono _ _ _ _ _ _ _)
   | (with_reducible exact course_rising.mono _ _)
   | (with_reducible exact LeO.refl _)
   | (with_reducible exact LeO.none _)
   | (with_reducible refine LeO.ite ?_ ?_)
   | (with_reducible refine LeO.bind ?_ (fun _ => ?_))
   | exact ih0 _ _ _ _ _ _ _ _
   | exact ih1 _ _ _ _ _ _ _ _ _ _
   | exact ih2 _ _ _ _ _ _ _ _ _ _ _ _ _ _ _
   | exact course_ask.mono _ _ _ _ _
   | exact course_drift.mono _ _ _ _ _ _
   | exact course_possible.mono _ _ _ _ _ _ _
   | exact course_rising.mono _ _
   | exact LeO.none _
   | refine LeO.ite ?_ ?_
   | refine LeO.bind ?_ (fun _ => ?_)
  ·
   intro y0 y1 y2 y3 y4 y5 y6 y7 y8 y9
   unfold course_Extend.l0
   repeat' first
   | (with_reducible exact ih0 _ _ _ _ _ _ _ _)
   | (with_reducible exact ih1 _ _ _ _ _ _ _ _ _ _)
   | (with_reducible exact ih2 _ _ _ _ _ _ _ _ _ _ _ _ _ _ _)
   | (with_reducible exact course_ask.mono _ _ _ _ _)
   | (with_reducible exact course_drift.mono _ _ _ _ _ _)
   | (with_reducible exact course_possible.mono _ _ _ _ _ _ _)
   | (with_reducible exact course_rising.mono _ _)
   | (with_reducible exact LeO.refl _)
   | (with_reducible exact LeO.none _)
   | (with_reducible refine LeO.ite ?_ ?_)
   | (with_reducible refine LeO.bind ?_ (fun _ => ?_))
   | exact ih0 _ _ _ _ _ _ _ _
   | exact ih1 _ _ _ _ _ _ _ _ _ _
   | exact ih2 _ _ _ _ _ _ _ _ _ _ _ _ _ _ _
   | exact course_ask.mono _ _ _ _ _
   | exact course_drift.mono _ _ _ _ _ _
   | exact course_possible.mono _ _ _ _ _ _ _
   | exact course_rising.mono _ _
   | exact LeO.none _
   | refine LeO.ite ?_ ?_
   | refine LeO.bind ?_ (fun _ => ?_)
  ·
   intro y0 y1 y2 y3 y4 y5 y6 y7 y8 y9 y10 y11 y12 y13 y14
   unfold course_Extend.l1
   repeat' first
   | (with_reducible exact ih0 _ _ _ _ _ _ _ _)
   | (with_reducible exact ih1 _ _ _ _ _ _ _ _ _ _)
   | (with_reducible exact ih2 _ _ _ _ _ _ _ _ _ _ _ _ _ _ _)
   | (with_reducible exact course_ask.mono _ _ _ _ _)
   | (with_reducible exact course_drift.mono _ _ _ _ _ _)
   | (with_reducible exact course_possible.mono _ _ _ _ _ _ _)
   | (with_reducible exact course_rising.mono _ _)
   | (with_reducible exact LeO.refl _)
   | (with_reducible exact LeO.none _)
   | (with_reducible refine LeO.ite ?_ ?_)
   | (with_reducible refine LeO.bind ?_ (fun _ => ?_))
   | exact ih0 _ _ _ _ _ _ _ _
   | exact ih1 _ _ _ _ _ _ _ _ _ _
   | exact ih2 _ _ _ _ _ _ _ _ _ _ _ _ _ _ _
   | exact course_ask.mono _ _ _ _ _
   | exact course_drift.mono _ _ _ _ _ _
   | exact course_possible.mono _ _ _ _ _ _ _
   | exact course_rising.mono _ _
   | exact LeO.none _
   | refine LeO.ite ?_ ?_
   | refine LeO.bind ?_ (fun _ => ?_)
theorem course_Extend.mono : ∀ a0 a1 a2 a3 a4 a5 a6 k, LeO (course_Extend.f k a0 a1 a2 a3 a4 a5 a6) (course_Extend.f (k + 1) a0 a1 a2 a3 a4 a5 a6) := by
 intro a0 a1 a2 a3 a4 a5 a6 k
 obtain ⟨ih0, ih1, ih2⟩ := course_Extend.mono_l k
 unfold course_Extend.f
 repeat' first
   | (with_reducible exact ih0 _ _ _ _ _ _ _ _)
   | (with_reducible exact ih1 _ _ _ _ _ _ _ _ _ _)
   | (with_reducible exact ih2 _ _ _ _ _ _ _ _ _ _ _ _ _ _ _)
   | (with_reducible exact course_ask.mono _ _ _ _ _)
   | (with_reducible exact course_drift.mono _ _ _ _ _ _)
   | (with_reducible exact course_possible.mono _ _ _ _ _ _ _)
   | (with_reducible exact course_rising.mono _ _)
   | (with_reducible exact LeO.refl _)
   | (with_reducible exact LeO.none _)
   | (with_reducible refine LeO.ite ?_ ?_)
   | (with_reducible refine LeO.bind ?_ (fun _ => ?_))
   | exact ih0 _ _ _ _ _ _ _ _
   | exact ih1 _ _ _ _ _ _ _ _ _ _
   | exact ih2 _ _ _ _ _ _ _ _ _ _ _ _ _ _ _
   | exact course_ask.mono _ _ _ _ _
   | exact course_drift.mono _ _ _ _ _ _
   | exact course_possible.mono _ _ _ _ _ _ _
   | exact course_rising.mono _ _
   | exact LeO.none _
   | refine LeO.ite ?_ ?_
   | refine LeO.bind ?_ (fun _ => ?_)
def course_Extend.T16 : Bool × List (List Nat × List Nat) := (true, [([], []), ([], []), ([], []), ([1, 2], [1, 2]), ([3], [3]), ([], []), ([5], [5]), ([], []), ([], []), ([7, 8], [7, 8]), ([6, 9], [6, 9]), ([4, 10], [4, 10]), ([0, 11], [0, 11]), ([12, 9, 0, 1, 2, 3, 4, 5, 6, 7, 8, 9, 10, 11, 12], [0, 12])])
def course_Extend.B16 : List Nat := [0, 0, 0, 6, 14, 0, 32, 0, 0, 384, 992, 2046, 4095, 8191]
theorem course_Extend.tab16 : rtab .any (opsOf Tryd.f35 16) = course_Extend.T16 := by kernel_rfl
theorem course_Extend.bits16 : waitsOk course_Extend.T16.2 course_Extend.B16 = true := by kernel_rfl
set_option maxHeartbeats 8000000 in
set_option maxRecDepth 100000 in
theorem course_Extend.calls (k : Nat) (a0_0 : Int) (a0_1 : Int) (A0_2 : Option Addr) (c0_2 : Nat) (l0_2 : List (S26)) (a1 : Int) (A2 : Option Addr) (c2 : Nat) (l2 : List Int) (A3 : Option Addr) (c3 : Nat) (l3 : List Int) (A4 : Option Addr) (c4 : Nat) (l4 : List Int) (r1 : List Int) (r2 : Bool) (r3 : Int) (w : World) (hr0_2 : Kd.C k26 w A0_2 l0_2.length l0_2) (hc0_2 : l0_2.length ≤ c0_2) (hr2 : Kd.C (Kd.int .i64) w A2 l2.length l2) (hc2 : l2.length ≤ c2) (hr3 : Kd.C (Kd.int .i64) w A3 l3.length l3) (hc3 : l3.length ≤ c3) (hr4 : Kd.C (Kd.int .i64) w A4 l4.length l4) (hc4 : l4.length ≤ c4) (h : course_Extend.f k a0_0 a0_1 l0_2 a1 l2 l3 l4 = some (r1, r2, r3)) :
  Calls Tryd.prog 35 #[.agg #[.int .i64 a0_0, .int .i64 a0_1, .slice A0_2 l0_2.length c0_2], .int .i64 a1, .slice A2 l2.length c2, .slice A3 l3.length c3, .slice A4 l4.length c4] w fun e w' => ∃ v0_ : Value, e = .returned (.tuple #[v0_, .bool r2, .int .i64 r3]) ∧ Kd.R (Kd.int .i64) 3 w' w.heap.size (fun _ => True) v0_ r1 ∧ Below w.heap.size w w' := by
 have hu24 := Tryd.underlying24
 have HR0_2 := Aside0.mk (hr0_2)
 have HC0_2 := Aside0.mk (hc0_2)
 clear hr0_2 hc0_2
 have HR2 := Aside0.mk (hr2)
 have HC2 := Aside0.mk (hc2)
 clear hr2 hc2
 have HR3 := Aside0.mk (hr3)
 have HC3 := Aside0.mk (hc3)
 clear hr3 hc3
 have HR4 := Aside0.mk (hr4)
 have HC4 := Aside0.mk (hc4)
 clear hr4 hc4
 have HB := Bw.mk (Below.refl w.heap.size w)
 have H : ((course_ask.f k a0_0 a0_1 l0_2 (([a1] : List Int))).bind fun t293 => (if t293 = 0 then (if (l2.length : Int) = (l3.length : Int) then ((course_rising.f k l2).bind fun t294 => (if t294 = true then ((course_rising.f k l4).bind fun t295 => (course_Extend.j0 k a1 l2 l3 l4 (!t295) a0_0 a0_1 l0_2)) else (course_Extend.j0 k a1 l2 l3 l4 true a0_0 a0_1 l0_2))) else (course_Extend.j0 k a1 l2 l3 l4 true a0_0 a0_1 l0_2)) else (some (([] : List Int), false, t293)))) = some (r1, r2, r3) := h
 clear h
 obtain ⟨y290, hy290⟩ : ∃ y_ : List Int, y_ = (([a1] : List Int)) := ⟨_, rfl⟩
 replace H : ((course_ask.f k a0_0 a0_1 l0_2 y290).bind fun t293 => (if t293 = 0 then (if (l2.length : Int) = (l3.length : Int) then ((course_rising.f k l2).bind fun t294 => (if t294 = true then ((course_rising.f k l4).bind fun t295 => (course_Extend.j0 k a1 l2 l3 l4 (!t295) a0_0 a0_1 l0_2)) else (course_Extend.j0 k a1 l2 l3 l4 true a0_0 a0_1 l0_2))) else (course_Extend.j0 k a1 l2 l3 l4 true a0_0 a0_1 l0_2)) else (some (([] : List Int), false, t293)))) = some (r1, r2, r3) := by first | (rw [hy290]; with_reducible exact H) | (have H2_ := (Option.bind_some _ _).symm.trans H; rw [hy290]; with_reducible exact H2_) | (have H2_ := (Option.bind_some _ _).symm.trans H; with_reducible exact H2_) | with_reducible exact H | (rw [hy290]; exact H) | exact H
 have Ny290 := Aside0.mk (hy290)
 clear hy290
 replace H := Option.bind_eq_some_iff.mp H
 obtain ⟨t293, A60, H⟩ := H
 have A6 := Aside0.mk (A60)
 clear A60
 by_cases c7 : t293 = 0
 ·
  rw [if_pos c7] at H
  have c7b0 : (t293 == 0) = true := beq_iff_eq.mpr c7
  have c7b1 : (t293 != 0) = false := bne_eq_false_iff_eq.mpr c7
  clear c7
  have HC8 := Aside0.mk (H)
  clear H
  go_enter Tryd.func35, Tryd.ntmps35
  go_upto_region 4 with (first | ((with_reducible refine gate_dst (N := 5) rfl ?_); refine bxE 5 24 #[.int .i64 a0_0, .int .i64 a0_1, .slice A0_2 l0_2.length c0_2] (by rfl) (by rfl) (by first | (go_simp; done) | (go_simp; rfl)) ?_; intro gb289 hg w9 hbox hb; have BK289 := Bk.mk (hbox); have GE289 := eB w hg; replace HB := bS w hb; clear hb hbox hg; obtain ⟨hcz10_0, hcz10_1, hcz10_2, hfz10_0, hfz10_1, hfz10_2⟩ := cz3 BK289) | ((with_reducible refine gate_dst (N := 22) rfl ?_); refine Kd.R_lit (Kd.int .i64) _ 3 ?hg (N := 22) ?hd (xs := ([a1] : List Int)) (inner := [.int .i64 a1]) (ok := fun _ => True) (okp := fun _ => True) ?hr ?hp (fun _ hk => hk) trivial (Below.refl _ _) (Nat.le_refl _) (by simp) ?_; (case hd => rfl); (case hg => rfl); (case hr => first | (go_simp; done) | (go_simp; rfl)); (case hp => exact (Reps.one (show Kd.M (Kd.int .i64) _ _ _ a1 [.int .i64 a1] from rfl) (Reps.none _ _))); intro v291 w11 ho12 hb hg_ hnew_; clear hg_ hnew_; (first | rw [← Ny290.out] at ho12 | (simp only [Int.reduceToNat] at ho12; rw [← Ny290.out] at ho12)); have n0_ := Aside0.mk (Kd.R_lower ho12 (bz w)); replace BK289 := kB gb289 hb; replace HB := bS w hb; have HO292 := n0_; clear n0_ hb ho12; obtain ⟨Ao13, co13, eo13⟩ := Kd.R_slice HO292.out; subst eo13) | ((with_reducible refine gate_callee (f := 76) rfl ?_); refine goesLM (some 23) rfl rfl Tryd.func76 (by kernel_rfl) rfl #[.agg #[.int .i64 a0_0, .int .i64 a0_1, .slice A0_2 l0_2.length c0_2], .slice Ao13 y290.length co13] rfl (by rfl) ?_; (with_reducible refine (course_ask.calls k a0_0 a0_1 _ _ l0_2 _ _ y290 t293 _ ?side1 ?side2 ?side3 ?side4 A6.out).mono ?_); (case side1 => exact cP (Kd.C_below HR0_2.out HB.out)); (case side2 => exact HC0_2.out); (case side3 => exact cP (Kd.R_reads' HO292.out).2.2); (case side4 => exact (Kd.R_reads' HO292.out).2.1); rintro e w14 ⟨rfl, hb⟩; refine ⟨_, rfl, ?_⟩; replace HO292 := rB HO292 hb; replace BK289 := kB gb289 hb; replace HB := bS w hb; (try clear hb)))
  (try simp only [Act.put, List.setIfInBounds_toArray, List.set_cons_zero, List.set_cons_succ])
  go_cut [41] (fun v41 wc => ∃ (kq : Nat) (x41_7 : Bool), v41 = .bool x41_7 ∧ Aside0 (course_Extend.j0 kq a1 l2 l3 l4 x41_7 a0_0 a0_1 l0_2 = some (r1, r2, r3)) ∧ Aside0 (kq ≤ k) ∧ Bk wc gb289 (.cells #[.int .i64 a0_0, .int .i64 a0_1, (.slice A0_2 l0_2.length c0_2)] 24 (0, 0)) ∧ Bw w wc)
  case first =>
   have H := HC8.out
   clear HC8
   by_cases c15 : (l2.length : Int) = (l3.length : Int)
   ·
    rw [if_pos c15] at H
    have c15b0 : ((l2.length : Int) == (l3.length : Int)) = true := beq_iff_eq.mpr c15
    have c15b1 : ((l2.length : Int) != (l3.length : Int)) = false := bne_eq_false_iff_eq.mpr c15
    have c15b2 : (l2.length == l3.length) = true := by first | simpa using c15 | (simp at c15 ⊢; omega)
    clear c15
    (first | rw [c15b0] | (simp only [i64_w]; rw [c15b0]) | skip)
    replace H := Option.bind_eq_some_iff.mp H
    obtain ⟨t294, A160, H⟩ := H
    have A16 := Aside0.mk (A160)
    clear A160
    by_cases c17 : t294 = true
    ·
     subst c17
     rw [if_pos rfl] at H
     replace H := Option.bind_eq_some_iff.mp H
     obtain ⟨t295, A180, H⟩ := H
     have A18 := Aside0.mk (A180)
     clear A180
     have H' := Aside0.mk H
     clear H
     go_wp2_with (first | (go_at_call 97; (with_reducible refine (course_rising.calls k _ _ l2 true _ ?side1 ?side2 A16.out).mono ?_); (case side1 => exact cP (Kd.C_below HR2.out HB.out)); (case side2 => exact HC2.out); rintro e w' ⟨rfl, ⟨nd, rfl⟩⟩) | (go_at_call 97; (with_reducible refine (course_rising.calls k _ _ l4 t295 _ ?side1 ?side2 A18.out).mono ?_); (case side1 => exact (Kd.C_below HR4.out (bw w))); (case side2 => exact HC4.out); rintro e w' ⟨rfl, ⟨nd, rfl⟩⟩))
     go_meet
     case rel => exact ⟨_, (!t295), (by first | rfl | (simp; done) | (simp [*]; done)), H', ⟨by first | omega | exact Nat.le_refl _⟩, inferInstance, inferInstance⟩
    ·
     replace c17 := Bool.eq_false_iff.mpr c17
     subst c17
     rw [if_neg (show ¬ (false = true) by decide)] at H
     have H' := Aside0.mk H
     clear H
     go_wp2_with (first | (go_at_call 97; (with_reducible refine (course_rising.calls k _ _ l2 false _ ?side1 ?side2 A16.out).mono ?_); (case side1 => exact cP (Kd.C_below HR2.out HB.out)); (case side2 => exact HC2.out); rintro e w' ⟨rfl, ⟨nd, rfl⟩⟩))
     go_meet
     case rel => exact ⟨_, (true), (by first | rfl | (simp; done) | (simp [*]; done)), H', ⟨by first | omega | exact Nat.le_refl _⟩, inferInstance, inferInstance⟩
   ·
    rw [if_neg c15] at H
    have c15b0 : ((l2.length : Int) == (l3.length : Int)) = false := beq_eq_false_iff_ne.mpr c15
    have c15b1 : ((l2.length : Int) != (l3.length : Int)) = true := bne_iff_ne.mpr c15
    have c15b2 : (l2.length == l3.length) = false := by first | simpa using c15 | (simp at c15 ⊢; omega)
    (first | rw [c15b0] | (simp only [i64_w]; rw [c15b0]) | skip)
    have H' := Aside0.mk H
    clear H
    go_wp2
    go_meet
    case rel => exact ⟨_, (true), (by first | rfl | (simp; done) | (simp [*]; done)), H', ⟨by first | omega | exact Nat.le_refl _⟩, inferInstance, inferInstance⟩
  case rest =>
   clear HC8
   try clear c1
   try clear c2
   try clear p2
   try clear c3
   try clear c4
   try clear c7
   try clear c7b0
   try clear c7b1
   try clear c15
   try clear c15b0
   try clear c15b1
   try clear c15b2
   try clear c17
   obtain ⟨kq, x41_7, rfl, HA, HJ7, BK289, HB⟩ := hcut
   cases kq with
   | zero => exact absurd HA.out (by simp [course_Extend.j0])
   | succ kj7 =>
    have H := HA.out
    clear HA
    simp only [course_Extend.j0] at H
    by_cases c19 : x41_7 = true
    ·
     subst c19
     rw [if_pos rfl] at H
     simp only [Option.some.injEq, Prod.mk.injEq] at H
     obtain ⟨rfl, rfl, rfl⟩ := H
     go_wp2
     go_ret3
     exact ⟨_, by first | rfl | (simp [errW_none, errW_some] <;> rfl) | (simp [*, errW_none, errW_some] <;> rfl), by first | exact Kd.R_nil _ _ _ _ _ | exact Kd.N_nil _ _ _ _ _ | exact Kd.V_nil _ _ _ _ _ | exact Kd.Q_nil _ _ _ _ _ | exact Kd.S_nil _ _ _ _ _, bw w⟩
    ·
     replace c19 := Bool.eq_false_iff.mpr c19
     subst c19
     rw [if_neg (show ¬ (false = true) by decide)] at H
     replace H := Option.bind_eq_some_iff.mp H
     obtain ⟨t296, A200, H⟩ := H
     have A20 := Aside0.mk (A200)
     clear A200
     by_cases c21 : t296 = true
     ·
      subst c21
      rw [if_pos rfl] at H
      have H' := Aside0.mk H
      clear H
      obtain ⟨hcz22_0, hcz22_1, hcz22_2, hfz22_0, hfz22_1, hfz22_2⟩ := cz3 BK289
      go_wp2_with (first | ((with_reducible refine gate_callee (f := 98) rfl ?_); refine goesLM (some 46) rfl rfl Tryd.func98 (by kernel_rfl) rfl #[.agg #[.int .i64 a0_0, .int .i64 a0_1, .slice A0_2 l0_2.length c0_2], .int .i64 a1, .slice A2 l2.length c2, .slice A3 l3.length c3] rfl (by rfl) ?_; (with_reducible refine (course_possible.calls kj7 a0_0 a0_1 _ _ l0_2 a1 _ _ l2 _ _ l3 true _ ?side1 ?side2 ?side3 ?side4 ?side5 ?side6 A20.out).mono ?_); (case side1 => exact cP (Kd.C_below HR0_2.out HB.out)); (case side2 => exact HC0_2.out); (case side3 => exact cP (Kd.C_below HR2.out HB.out)); (case side4 => exact HC2.out); (case side5 => exact cP (Kd.C_below HR3.out HB.out)); (case side6 => exact HC3.out); rintro e w23 ⟨rfl, hb⟩; refine ⟨_, rfl, ?_⟩; replace BK289 := kB gb289 hb; replace HB := bS w hb; (try clear hb)))
      go_loopg [14, 50] kj7 (fun kq v14 v50 w' => ∃ (x14_2 : List Int) (x50_2 : Int), v50 = .int .i64 x50_2 ∧ Aside0 (course_Extend.l0 kq a1 l2 l3 x14_2 l4 (l4.length : Int) x50_2 a0_0 a0_1 l0_2 = some (r1, r2, r3)) ∧ Aside0 (kq ≤ kj7) ∧ Aside0 (Kd.R (Kd.int .i64) 3 w' w.heap.size (fun _ => True) v14 x14_2) ∧ Bk w' gb289 (.cells #[.int .i64 a0_0, .int .i64 a0_1, (.slice A0_2 l0_2.length c0_2)] 24 (0, 0)) ∧ Bw w w')
      case atStart => exact ⟨(([] : List Int)), (0), (by first | rfl | (simp; done) | (simp [*]; done)), H', ⟨Nat.le_refl _⟩, ⟨by first | exact Kd.R_nil _ _ _ _ _ | exact Kd.N_nil _ _ _ _ _ | exact Kd.V_nil _ _ _ _ _ | exact Kd.Q_nil _ _ _ _ _ | exact Kd.S_nil _ _ _ _ _⟩, inferInstance, inferInstance⟩
      case round =>
       clear H'
       try clear c1
       try clear c2
       try clear p2
       try clear c3
       try clear c4
       try clear c7
       try clear c7b0
       try clear c7b1
       try clear c9
       try clear c15
       try clear c15b0
       try clear c15b1
       try clear c15b2
       try clear c17
       try clear c19
       try clear c21
       try clear p2
       obtain ⟨x14_2, x50_2, rfl, HA, HK2, HO_14, BK289, HB⟩ := hrel
       cases gk with
       | zero => exact absurd HA.out (by simp [course_Extend.l0])
       | succ k2 =>
        have H := HA.out
        clear HA
        simp only [course_Extend.l0] at H
        by_cases c24 : x50_2 < (l4.length : Int)
        ·
         rw [if_pos c24] at H
         have c24b0 : decide (x50_2 < (l4.length : Int)) = true := decide_eq_true c24
         clear c24
         by_cases c25 : 0 ≤ x50_2
         ·
          rw [if_pos c25] at H
          have c25b0 : decide (0 ≤ x50_2) = true := decide_eq_true c25
          clear c25
          by_cases c26 : x50_2 < (l4.length : Int)
          ·
           rw [if_pos c26] at H
           have c26b0 : decide (x50_2 < (l4.length : Int)) = true := decide_eq_true c26
           clear c26
           replace H := Option.bind_eq_some_iff.mp H
           obtain ⟨⟨t298, t299⟩, A270, H⟩ := H
           have A27 := Aside0.mk (A270)
           clear A270
           have H' := Aside0.mk H
           clear H
           have p297 : 0 ≤ (x50_2 : Int) := of_decide_eq_true (by first | (with_reducible assumption) | assumption)
           have q297 : x50_2 < (l4.length : Int) := of_decide_eq_true (by first | (with_reducible assumption) | assumption)
           obtain ⟨ad297, e297, hx297_0⟩ := Kd.at_int HR4.out x50_2 p297 q297
           cases e297
           replace hx297_0 := cB HB hx297_0
           replace p297 := eq_true p297
           replace q297 := eq_true q297
           obtain ⟨hcz28_0, hcz28_1, hcz28_2, hfz28_0, hfz28_1, hfz28_2⟩ := cz3 BK289
           go_wp2_with (first | ((with_reducible refine gate_callee (f := 77) rfl ?_); refine goesLM (some 57) rfl rfl Tryd.func77 (by kernel_rfl) rfl #[.agg #[.int .i64 a0_0, .int .i64 a0_1, .slice A0_2 l0_2.length c0_2], .int .i64 (rd l4 x50_2), .int .i64 a1] rfl (by rfl) ?_; (with_reducible refine (course_drift.calls k2 a0_0 a0_1 _ _ l0_2 (rd l4 x50_2) a1 t298 t299 _ ?side1 ?side2 A27.out).mono ?_); (case side1 => exact cP (Kd.C_below HR0_2.out HB.out)); (case side2 => exact HC0_2.out); rintro e w29 ⟨rfl, hb⟩; refine ⟨_, rfl, ?_⟩; replace HO_14 := rB HO_14 hb; replace BK289 := kB gb289 hb; replace HB := bS w hb; (try clear hb)))
           go_loopg [17, 61] k2 (fun kq v17 v61 w' => ∃ (x17_3 : Int) (x61_3 : Int), v17 = .int .i64 x17_3 ∧ v61 = .int .i64 x61_3 ∧ Aside0 (course_Extend.l1 kq a1 l2 l3 x14_2 (rd l4 x50_2) x17_3 l4 (l4.length : Int) x50_2 l2 (l2.length : Int) x61_3 a0_0 a0_1 l0_2 = some (r1, r2, r3)) ∧ Aside0 (kq ≤ k2) ∧ Aside0 (Kd.R (Kd.int .i64) 3 w' w.heap.size (fun _ => True) u14 x14_2) ∧ Bk w' gb289 (.cells #[.int .i64 a0_0, .int .i64 a0_1, (.slice A0_2 l0_2.length c0_2)] 24 (0, 0)) ∧ Bw w w')
           case atStart => exact ⟨(t299), (0), (by first | rfl | (simp; done) | (simp [*]; done)), (by first | rfl | (simp; done) | (simp [*]; done)), H', ⟨Nat.le_refl _⟩, ⟨by (with_reducible repeat (first | apply Kd.R_alloc | apply Kd.R_drewN | apply Kd.R_drew)); exact HO_14.out⟩, inferInstance, inferInstance⟩
           case round =>
            clear H'
            try clear c1
            try clear c2
            try clear p2
            try clear q2
            try clear hx2
            try clear c3
            try clear c4
            try clear c7
            try clear c7b0
            try clear c7b1
            try clear c9
            try clear c15
            try clear c15b0
            try clear c15b1
            try clear c15b2
            try clear c17
            try clear c19
            try clear c21
            try clear c24
            try clear c24b0
            try clear c25
            try clear c25b0
            try clear c26
            try clear c26b0
            try clear p29
            try clear q29
            try clear hx29
            try clear hx297_0
            try clear p2
            try clear p297
            try clear q297
            obtain ⟨x17_3, x61_3, rfl, rfl, HA, HK3, HO_14, BK289, HB⟩ := hrel
            cases gk with
            | zero => exact absurd HA.out (by simp [course_Extend.l1])
            | succ k3 =>
             have H := HA.out
             clear HA
             simp only [course_Extend.l1] at H
             by_cases c30 : x61_3 < (l2.length : Int)
             ·
              rw [if_pos c30] at H
              have c30b0 : decide (x61_3 < (l2.length : Int)) = true := decide_eq_true c30
              clear c30
              by_cases c31 : 0 ≤ x61_3
              ·
               rw [if_pos c31] at H
               have c31b0 : decide (0 ≤ x61_3) = true := decide_eq_true c31
               clear c31
               by_cases c32 : x61_3 < (l2.length : Int)
               ·
                rw [if_pos c32] at H
                have c32b0 : decide (x61_3 < (l2.length : Int)) = true := decide_eq_true c32
                clear c32
                by_cases c33 : x61_3 < (l3.length : Int)
                ·
                 rw [if_pos c33] at H
                 have c33b0 : decide (x61_3 < (l3.length : Int)) = true := decide_eq_true c33
                 clear c33
                 replace H := Option.bind_eq_some_iff.mp H
                 obtain ⟨t302, A340, H⟩ := H
                 have A34 := Aside0.mk (A340)
                 clear A340
                 obtain ⟨ji35, hji35⟩ : ∃ j_ : Int, (mn x17_3 (wrap64 ((rd l3 x61_3) + (wrap64 (a0_1 * t302))))) = j_ := ⟨_, rfl⟩
                 replace H : (course_Extend.l1 k3 a1 l2 l3 x14_2 (rd l4 x50_2) ji35 l4 (l4.length : Int) x50_2 l2 (l2.length : Int) (wrap64 (x61_3 + 1)) a0_0 a0_1 l0_2) = some (r1, r2, r3) := by first | (rw [hji35] at H; exact H) | (simp only [hji35] at H ⊢; exact H)
                 (try rw [hji35] at A34)
                 have hji35_ : (if (wrap64 ((rd l3 x61_3) + (wrap64 (a0_1 * t302)))) < x17_3 then (wrap64 ((rd l3 x61_3) + (wrap64 (a0_1 * t302)))) else x17_3) = ji35 := hji35
                 have H' := Aside0.mk H
                 clear H
                 have p300 : 0 ≤ (x61_3 : Int) := of_decide_eq_true (by first | (with_reducible assumption) | assumption)
                 have q300 : x61_3 < (l2.length : Int) := of_decide_eq_true (by first | (with_reducible assumption) | assumption)
                 obtain ⟨ad300, e300, hx300_0⟩ := Kd.at_int HR2.out x61_3 p300 q300
                 cases e300
                 replace hx300_0 := cB HB hx300_0
                 replace p300 := eq_true p300
                 replace q300 := eq_true q300
                 try go_wp2
                 have n0_ := Aside0.mk (Kd.R_drew HO_14.out)
                 have n1_ := Bk.mk (blk_drew BK289.out)
                 have n2_ := Bw.mk (below_drew1 HB.out)
                 clear HO_14 BK289 HB
                 have HO_14 := n0_
                 have BK289 := n1_
                 have HB := n2_
                 clear n0_ n1_ n2_
                 have p301 : 0 ≤ (x61_3 : Int) := of_decide_eq_true (by first | (with_reducible assumption) | assumption)
                 have q301 : x61_3 < (l3.length : Int) := of_decide_eq_true (by first | (with_reducible assumption) | assumption)
                 obtain ⟨ad301, e301, hx301_0⟩ := Kd.at_int HR3.out x61_3 p301 q301
                 have hw301_0 := hx301_0
                 cases e301
                 replace hx301_0 := cB HB hx301_0
                 replace p301 := eq_true p301
                 replace q301 := eq_true q301
                 refine start_ (n := 14) (S := fun w' => w'.cell? ⟨gb289, 0, none⟩ = some (.int .i64 a0_0) ∧ w'.cell? ⟨gb289, 1, none⟩ = some (.int .i64 a0_1) ∧ w'.cell? ⟨gb289, 2, none⟩ = some (.slice A0_2 l0_2.length c0_2) ∧ w'.cell? (ad301.add (x61_3).toNat) = some (.int .i64 (rd l3 x61_3))) (ds := []) #[false, false, false, false, false, false, false, false, false, false, false, false, false, false] (by kernel_rfl) rfl rfl ⟨bc BK289 0, bc BK289 1, bc BK289 2, ((HB.out.cell (World.block_lt_of_cell? w _ hw301_0)).trans hw301_0)⟩ (fun hHeld => ?_); refine with_tabW course_Extend.tab16 course_Extend.bits16 (fun HT_ HW_ => ?_)
                 generalize wr.drew = w36 at HO_14 BK289 HB hx301_0 hHeld ⊢
                 refine pS 0 (some 66) rfl rfl (any_of HT_.out (by kernel_rfl)) (fun _ _ _ h => h) (by rfl) (fun w' => by go_simp; with_reducible rfl) (by simp only [Act.put, List.setIfInBounds_toArray, List.set_cons_zero, List.set_cons_succ, i64_w]; rfl) ?_
                 refine pS 1 (some 67) rfl rfl (any_of HT_.out (by kernel_rfl)) (fun _ _ _ h => h) (by rfl) (fun w' => by go_simp; with_reducible rfl) (by simp only [Act.put, List.setIfInBounds_toArray, List.set_cons_zero, List.set_cons_succ, i64_w]; rfl) ?_
                 refine pS 2 (some 68) rfl rfl (any_of HT_.out (by kernel_rfl)) (fun _ _ _ h => h) (by rfl) (fun w' => by go_simp; with_reducible rfl) (by simp only [Act.put, List.setIfInBounds_toArray, List.set_cons_zero, List.set_cons_succ, i64_w]; rfl) ?_
                 refine pS 3 (some 69) rfl rfl (any_of HT_.out (by kernel_rfl)) (fun _ _ _ h => h) (by rfl) (fun w' => by go_simp; with_reducible rfl) (by simp only [Act.put, List.setIfInBounds_toArray, List.set_cons_zero, List.set_cons_succ, i64_w]; rfl) ?_
                 refine pS 5 (some 71) rfl rfl (any_of HT_.out (by kernel_rfl)) (fun _ _ _ h => h) (by rfl) (fun w' => by go_simp; with_reducible rfl) (by simp only [Act.put, List.setIfInBounds_toArray, List.set_cons_zero, List.set_cons_succ, i64_w]; rfl) ?_
                 refine pS 7 (some 73) rfl rfl (any_of HT_.out (by kernel_rfl)) (fun _ _ _ h => h) (by rfl) (fun w' => by go_simp; with_reducible rfl) (by simp only [Act.put, List.setIfInBounds_toArray, List.set_cons_zero, List.set_cons_succ, i64_w]; rfl) ?_
                 refine pS 8 (some 74) rfl rfl (any_of HT_.out (by kernel_rfl)) (fun _ _ _ h => h) (by rfl) (fun w' => by go_simp; with_reducible rfl) (by simp only [Act.put, List.setIfInBounds_toArray, List.set_cons_zero, List.set_cons_succ, i64_w]; rfl) ?_
                 refine tS 4 (some 70) rfl rfl (take_ofW HT_.out HW_.out (by kernel_rfl)) (fun _ _ _ h => h) (by rfl) (by rintro w' ⟨s0, s1, s2, s3⟩; go_simp; with_reducible rfl) hHeld (by simp only [Act.put, List.setIfInBounds_toArray, List.set_cons_zero, List.set_cons_succ, i64_w]; rfl) ?_
                 refine tS 6 (some 72) rfl rfl (take_ofW HT_.out HW_.out (by kernel_rfl)) (fun _ _ _ h => h) (by rfl) (by rintro w' ⟨s0, s1, s2, s3⟩; go_simp; with_reducible rfl) hHeld (by simp only [Act.put, List.setIfInBounds_toArray, List.set_cons_zero, List.set_cons_succ, i64_w]; rfl) ?_
                 refine one_ (i := 9) (N := some 75) #[true, true, true, true, true, true, true, true, true, true, false, false, false, false] rfl rfl (one_of HT_.out (by kernel_rfl)) (by decide) (fun K hK => ?_)
                 refine goesM Tryd.func101 (by kernel_rfl) rfl #[.int .i64 (rd l2 x61_3), .int .i64 (rd l4 x50_2)] (by rfl) rfl rfl (by rfl) ?_
                 with_reducible refine (course_apart.calls (rd l2 x61_3) (rd l4 x50_2) t302 _ A34.out).mono ?_
                 rintro e w37 ⟨rfl, hb⟩
                 refine ⟨_, rfl, ?_⟩
                 replace HO_14 := rB HO_14 hb
                 replace BK289 := kB gb289 hb
                 replace HB := bS w hb
                 (try clear hb)
                 refine hK.out _ _ ⟨bc BK289 0, bc BK289 1, bc BK289 2, ((HB.out.cell (World.block_lt_of_cell? w _ hw301_0)).trans hw301_0)⟩ (fun hHeld => ?_)
                 clear hK K
                 refine norm_ (a' := ?_) ?_ ?_
                 rotate_left
                 ·
                  show Act.put _ (some 75) _ = _
                  simp only [Act.put, List.setIfInBounds_toArray, List.set_cons_zero, List.set_cons_succ, i64_w]
                  rfl
                 refine pS 10 (some 76) rfl rfl (any_of HT_.out (by kernel_rfl)) (fun _ _ _ h => h) (by rfl) (fun w' => by go_simp; with_reducible rfl) (by simp only [Act.put, List.setIfInBounds_toArray, List.set_cons_zero, List.set_cons_succ, i64_w]; rfl) ?_
                 refine pS 11 (some 77) rfl rfl (any_of HT_.out (by kernel_rfl)) (fun _ _ _ h => h) (by rfl) (fun w' => by go_simp; with_reducible rfl) (by simp only [Act.put, List.setIfInBounds_toArray, List.set_cons_zero, List.set_cons_succ, i64_w]; rfl) ?_
                 refine pS 12 (some 78) rfl rfl (any_of HT_.out (by kernel_rfl)) (fun _ _ _ h => h) (by rfl) (fun w' => by go_simp; with_reducible rfl) (by simp only [Act.put, List.setIfInBounds_toArray, List.set_cons_zero, List.set_cons_succ, i64_w]; rfl) ?_
                 refine pS 13 (some 17) rfl rfl (any_of HT_.out (by kernel_rfl)) (fun _ _ _ h => h) (by rfl) (fun w' => by go_simp; with_reducible rfl) (by simp only [Act.put, List.setIfInBounds_toArray, List.set_cons_zero, List.set_cons_succ, i64_w]; rfl) ?_
                 refine done_ (done_of HT_.out (by kernel_rfl)) ?_
                 try go_wp2
                 go_roundg k3
                 case measure => have := HJ7.out; have := HK2.out; have := HK3.out; omega
                 case rel => exact ⟨(ji35), (wrap64 (x61_3 + 1)), (by first | rfl | (simp; done) | (simp only [← hji35] <;> (first | rfl | simp)) | (simp [*]; done)), (by first | rfl | (simp; done) | (simp [*]; done)), H', ⟨by have := HJ7.out; have := HK2.out; have := HK3.out; omega⟩, ⟨by (with_reducible repeat (first | apply Kd.R_alloc | apply Kd.R_drewN | apply Kd.R_drew)); exact HO_14.out⟩, inferInstance, inferInstance⟩
                ·
                 rw [if_neg c33] at H
                 exact absurd H (by simp)
               ·
                rw [if_neg c32] at H
                exact absurd H (by simp)
              ·
               rw [if_neg c31] at H
               exact absurd H (by simp)
             ·
              rw [if_neg c30] at H
              have c30b0 : decide (x61_3 < (l2.length : Int)) = false := decide_eq_false c30
              clear c30
              by_cases c38 : x14_2.length < 17592186044416
              ·
               rw [if_pos c38] at H
               have LMc38 := Aside0.mk (c38)
               clear c38
               obtain ⟨y303, hy303⟩ : ∃ y_ : List Int, y_ = (x14_2 ++ [x17_3]) := ⟨_, rfl⟩
               replace H : (course_Extend.l0 k3 a1 l2 l3 y303 l4 (l4.length : Int) (wrap64 (x50_2 + 1)) a0_0 a0_1 l0_2) = some (r1, r2, r3) := by first | (rw [hy303]; with_reducible exact H) | (have H2_ := (Option.bind_some _ _).symm.trans H; rw [hy303]; with_reducible exact H2_) | (have H2_ := (Option.bind_some _ _).symm.trans H; with_reducible exact H2_) | with_reducible exact H | (rw [hy303]; exact H) | exact H
               have Ny303 := Aside0.mk (hy303)
               clear hy303
               have H' := Aside0.mk H
               clear H
               go_wp2_with (first | ((with_reducible refine gate_builtin (b := .append) (xs := #[.tmp 80, .tmp 82]) rfl ?_); at_builtin; refine Kd.R_append (Kd.int .i64) (w0 := w) w.heap.size rfl (.tmp 80) (.tmp 82) 51 3 (.int .i64 0) 8 rfl Tryd.underlying51 info3 rfl (by decide) (by omega) u14 x14_2 x17_3 [.int .i64 x17_3] (fun _ => True) (fun _ => False) rfl rfl ?aP (fun _ hk => hk.elim) ?aF ?aO ?aB ?aS ?aL ?_; (case aP => exact rfl); (case aB => exact (bw w)); (case aF => exact (fun _ _ => trivial)); (case aO => exact (by (with_reducible repeat (first | apply Kd.R_alloc | apply Kd.R_drewN | apply Kd.R_drew)); exact HO_14.out)); (case aS => exact (bz w)); (case aL => have := LMc38.out; omega); intro v304 w39 ho hb hg hat; rw [← Ny303.out] at ho; have n0_ := Bk.mk (blk_grown (g := gb289) (o := .cells #[.int .i64 a0_0, .int .i64 a0_1, .slice A0_2 l0_2.length c0_2] 24 (0, 0)) (bk _ gb289) hg (Kd.R_ne HO_14.out BK289.out (by decide))); have n1_ := Bw.mk (hb); have n2_ := Aside0.mk (ho); clear BK289 HB HO_14; have BK289 := n0_; have HB := n1_; have HO305 := n2_; clear n0_ n1_ n2_ ho hb hg hat))
               go_roundg k3
               case measure => have := HJ7.out; have := HK2.out; have := HK3.out; omega
               case rel => exact ⟨(y303), (wrap64 (x50_2 + 1)), (by first | rfl | (simp; done) | (simp [*]; done)), H', ⟨by have := HJ7.out; have := HK2.out; have := HK3.out; omega⟩, ⟨by (with_reducible repeat (first | apply Kd.R_alloc | apply Kd.R_drewN | apply Kd.R_drew)); exact HO305.out⟩, inferInstance, inferInstance⟩
              ·
               rw [if_neg c38] at H
               exact absurd H (by simp)
          ·
           rw [if_neg c26] at H
           exact absurd H (by simp)
         ·
          rw [if_neg c25] at H
          exact absurd H (by simp)
        ·
         rw [if_neg c24] at H
         have c24b0 : decide (x50_2 < (l4.length : Int)) = false := decide_eq_false c24
         clear c24
         simp only [Option.some.injEq, Prod.mk.injEq] at H
         obtain ⟨rfl, rfl, rfl⟩ := H
         go_wp2
         go_ret3
         exact ⟨_, by first | rfl | (simp [errW_none, errW_some] <;> rfl) | (simp [*, errW_none, errW_some] <;> rfl), by (with_reducible repeat (first | apply Kd.R_alloc | apply Kd.R_drewN | apply Kd.R_drew)); exact HO_14.out, bw w⟩
     ·
      replace c21 := Bool.eq_false_iff.mpr c21
      subst c21
      rw [if_neg (show ¬ (false = true) by decide)] at H
      simp only [Option.some.injEq, Prod.mk.injEq] at H
      obtain ⟨rfl, rfl, rfl⟩ := H
      obtain ⟨hcz40_0, hcz40_1, hcz40_2, hfz40_0, hfz40_1, hfz40_2⟩ := cz3 BK289
      go_wp2_with (first | ((with_reducible refine gate_callee (f := 98) rfl ?_); refine goesLM (some 46) rfl rfl Tryd.func98 (by kernel_rfl) rfl #[.agg #[.int .i64 a0_0, .int .i64 a0_1, .slice A0_2 l0_2.length c0_2], .int .i64 a1, .slice A2 l2.length c2, .slice A3 l3.length c3] rfl (by rfl) ?_; (with_reducible refine (course_possible.calls kj7 a0_0 a0_1 _ _ l0_2 a1 _ _ l2 _ _ l3 false _ ?side1 ?side2 ?side3 ?side4 ?side5 ?side6 A20.out).mono ?_); (case side1 => exact cP (Kd.C_below HR0_2.out HB.out)); (case side2 => exact HC0_2.out); (case side3 => exact cP (Kd.C_below HR2.out HB.out)); (case side4 => exact HC2.out); (case side5 => exact cP (Kd.C_below HR3.out HB.out)); (case side6 => exact HC3.out); rintro e w41 ⟨rfl, hb⟩; refine ⟨_, rfl, ?_⟩; replace BK289 := kB gb289 hb; replace HB := bS w hb; (try clear hb)))
      go_ret3
      exact ⟨_, by first | rfl | (simp [errW_none, errW_some] <;> rfl) | (simp [*, errW_none, errW_some] <;> rfl), by first | exact Kd.R_nil _ _ _ _ _ | exact Kd.N_nil _ _ _ _ _ | exact Kd.V_nil _ _ _ _ _ | exact Kd.Q_nil _ _ _ _ _ | exact Kd.S_nil _ _ _ _ _, bw w⟩
 ·
  rw [if_neg c7] at H
  have c7b0 : (t293 == 0) = false := beq_eq_false_iff_ne.mpr c7
  have c7b1 : (t293 != 0) = true := bne_iff_ne.mpr c7
  simp only [Option.some.injEq, Prod.mk.injEq] at H
  obtain ⟨rfl, rfl, rfl⟩ := H
  go_enter Tryd.func35, Tryd.ntmps35
  go_wp2_with (first | ((with_reducible refine gate_dst (N := 5) rfl ?_); refine bxE 5 24 #[.int .i64 a0_0, .int .i64 a0_1, .slice A0_2 l0_2.length c0_2] (by rfl) (by rfl) (by first | (go_simp; done) | (go_simp; rfl)) ?_; intro gb289 hg w42 hbox hb; have BK289 := Bk.mk (hbox); have GE289 := eB w hg; replace HB := bS w hb; clear hb hbox hg; obtain ⟨hcz43_0, hcz43_1, hcz43_2, hfz43_0, hfz43_1, hfz43_2⟩ := cz3 BK289) | ((with_reducible refine gate_dst (N := 22) rfl ?_); refine Kd.R_lit (Kd.int .i64) _ 3 ?hg (N := 22) ?hd (xs := ([a1] : List Int)) (inner := [.int .i64 a1]) (ok := fun _ => True) (okp := fun _ => True) ?hr ?hp (fun _ hk => hk) trivial (Below.refl _ _) (Nat.le_refl _) (by simp) ?_; (case hd => rfl); (case hg => rfl); (case hr => first | (go_simp; done) | (go_simp; rfl)); (case hp => exact (Reps.one (show Kd.M (Kd.int .i64) _ _ _ a1 [.int .i64 a1] from rfl) (Reps.none _ _))); intro v291 w44 ho45 hb hg_ hnew_; clear hg_ hnew_; (first | rw [← Ny290.out] at ho45 | (simp only [Int.reduceToNat] at ho45; rw [← Ny290.out] at ho45)); have n0_ := Aside0.mk (Kd.R_lower ho45 (bz w)); replace BK289 := kB gb289 hb; replace HB := bS w hb; have HO292 := n0_; clear n0_ hb ho45; obtain ⟨Ao46, co46, eo46⟩ := Kd.R_slice HO292.out; subst eo46) | ((with_reducible refine gate_callee (f := 76) rfl ?_); refine goesLM (some 23) rfl rfl Tryd.func76 (by kernel_rfl) rfl #[.agg #[.int .i64 a0_0, .int .i64 a0_1, .slice A0_2 l0_2.length c0_2], .slice Ao46 y290.length co46] rfl (by rfl) ?_; (with_reducible refine (course_ask.calls k a0_0 a0_1 _ _ l0_2 _ _ y290 t293 _ ?side1 ?side2 ?side3 ?side4 A6.out).mono ?_); (case side1 => exact cP (Kd.C_below HR0_2.out HB.out)); (case side2 => exact HC0_2.out); (case side3 => exact cP (Kd.R_reads' HO292.out).2.2); (case side4 => exact (Kd.R_reads' HO292.out).2.1); rintro e w47 ⟨rfl, hb⟩; refine ⟨_, rfl, ?_⟩; replace HO292 := rB HO292 hb; replace BK289 := kB gb289 hb; replace HB := bS w hb; (try clear hb)))
  go_ret3
  exact ⟨_, by first | rfl | (simp [errW_none, errW_some] <;> rfl) | (simp [*, errW_none, errW_some] <;> rfl), by first | exact Kd.R_nil _ _ _ _ _ | exact Kd.N_nil _ _ _ _ _ | exact Kd.V_nil _ _ _ _ _ | exact Kd.Q_nil _ _ _ _ _ | exact Kd.S_nil _ _ _ _ _, bw w⟩
def slices_Equal_int_int.l0 : Nat → List Int → List Int → Int → Int → Option (Bool)
 | 0, _, _, _, _ => none
 | k + 1, x0, x1, x12, x13 => if x13 < x12 then (if 0 ≤ x13 then (if x13 < (x0.length : Int) then (if x13 < (x1.length : Int) then (if (rd x0 x13) = (rd x1 x13) then (slices_Equal_int_int.l0 k x0 x1 x12 (wrap64 (x13 + 1))) else (some false)) else (none)) else (none)) else (none)) else (some true)
def slices_Equal_int_int.f (k : Nat) (l0 : List Int) (l1 : List Int) : Option (Bool) := if (l0.length : Int) = (l1.length : Int) then (slices_Equal_int_int.l0 k l0 l1 (l0.length : Int) 0) else (some false)
theorem slices_Equal_int_int.mono_l : ∀ k, (∀ y0 y1 y2 y3, LeO (slices_Equal_int_int.l0 k y0 y1 y2 y3) (slices_Equal_int_int.l0 (k + 1) y0 y1 y2 y3))
 | 0 => fun _ _ _ _ r h => by simp [slices_Equal_int_int.l0] at h
 | k + 1 => by
  have ih0 := slices_Equal_int_int.mono_l k
  ·
   intro y0 y1 y2 y3
   unfold slices_Equal_int_int.l0
   repeat' first
   | (with_reducible exact ih0 _ _ _ _)
   | (with_reducible exact LeO.refl _)
   | (with_reducible exact LeO.none _)
   | (with_reducible refine LeO.ite ?_ ?_)
   | (with_reducible refine LeO.bind ?_ (fun _ => ?_))
   | exact ih0 _ _ _ _
   | exact LeO.none _
   | refine LeO.ite ?_ ?_
   | refine LeO.bind ?_ (fun _ => ?_)
theorem slices_Equal_int_int.mono : ∀ a0 a1 k, LeO (slices_Equal_int_int.f k a0 a1) (slices_Equal_int_int.f (k + 1) a0 a1) := by
 intro a0 a1 k
 have ih0 := slices_Equal_int_int.mono_l k
 unfold slices_Equal_int_int.f
 repeat' first
   | (with_reducible exact ih0 _ _ _ _)
   | (with_reducible exact LeO.refl _)
   | (with_reducible exact LeO.none _)
   | (with_reducible refine LeO.ite ?_ ?_)
   | (with_reducible refine LeO.bind ?_ (fun _ => ?_))
   | exact ih0 _ _ _ _
   | exact LeO.none _
   | refine LeO.ite ?_ ?_
   | refine LeO.bind ?_ (fun _ => ?_)
set_option maxHeartbeats 8000000 in
set_option maxRecDepth 100000 in
theorem slices_Equal_int_int.calls (k : Nat) (A0 : Option Addr) (c0 : Nat) (l0 : List Int) (A1 : Option Addr) (c1 : Nat) (l1 : List Int) (r : Bool) (w : World) (hr0 : Kd.C (Kd.int .i64) w A0 l0.length l0) (hc0 : l0.length ≤ c0) (hr1 : Kd.C (Kd.int .i64) w A1 l1.length l1) (hc1 : l1.length ≤ c1) (h : slices_Equal_int_int.f k l0 l1 = some r) :
  Calls Tryd.prog 37 #[.slice A0 l0.length c0, .slice A1 l1.length c1] w fun e w' => e = .returned (.bool r) ∧ Drawn0 w w' := by
 have HR0 := Aside0.mk (hr0)
 have HC0 := Aside0.mk (hc0)
 clear hr0 hc0
 have HR1 := Aside0.mk (hr1)
 have HC1 := Aside0.mk (hc1)
 clear hr1 hc1
 have H : (if (l0.length : Int) = (l1.length : Int) then (slices_Equal_int_int.l0 k l0 l1 (l0.length : Int) 0) else (some false)) = some r := h
 clear h
 by_cases c3 : (l0.length : Int) = (l1.length : Int)
 ·
  rw [if_pos c3] at H
  have c3b0 : ((l0.length : Int) == (l1.length : Int)) = true := beq_iff_eq.mpr c3
  have c3b1 : ((l0.length : Int) != (l1.length : Int)) = false := bne_eq_false_iff_eq.mpr c3
  have c3b2 : (l0.length == l1.length) = true := by first | simpa using c3 | (simp at c3 ⊢; omega)
  clear c3
  have H' := Aside0.mk H
  clear H
  go_enter Tryd.func37, Tryd.ntmps37
  go_wp2
  repeat (go_quiet (fail); try go_wp2)
  go_loopg [13] k (fun kq v13 w' => ∃ (x13_1 : Int), v13 = .int .i64 x13_1 ∧ Aside0 (slices_Equal_int_int.l0 kq l0 l1 (l0.length : Int) x13_1 = some r) ∧ Aside0 (kq ≤ k) ∧ Drawn0 w w')
  case atStart => exact ⟨(0), (by first | rfl | (simp; done) | (simp [*]; done)), H', ⟨Nat.le_refl _⟩, by repeat (first | exact Drawn0.refl _ | apply Drawn0.step)⟩
  case round =>
   clear H'
   try clear c1
   try clear p2
   try clear c3
   try clear c3b0
   try clear c3b1
   try clear c3b2
   obtain ⟨x13_1, rfl, HA, HK1, ⟨m1, rfl⟩⟩ := hrel
   cases gk with
   | zero => exact absurd HA.out (by simp [slices_Equal_int_int.l0])
   | succ k1 =>
    have H := HA.out
    clear HA
    simp only [slices_Equal_int_int.l0] at H
    by_cases c4 : x13_1 < (l0.length : Int)
    ·
     rw [if_pos c4] at H
     have c4b0 : decide (x13_1 < (l0.length : Int)) = true := decide_eq_true c4
     clear c4
     by_cases c5 : 0 ≤ x13_1
     ·
      rw [if_pos c5] at H
      have c5b0 : decide (0 ≤ x13_1) = true := decide_eq_true c5
      clear c5
      by_cases c6 : x13_1 < (l0.length : Int)
      ·
       rw [if_pos c6] at H
       have c6b0 : decide (x13_1 < (l0.length : Int)) = true := decide_eq_true c6
       clear c6
       by_cases c7 : x13_1 < (l1.length : Int)
       ·
        rw [if_pos c7] at H
        have c7b0 : decide (x13_1 < (l1.length : Int)) = true := decide_eq_true c7
        clear c7
        by_cases c8 : (rd l0 x13_1) = (rd l1 x13_1)
        ·
         rw [if_pos c8] at H
         have c8b0 : ((rd l0 x13_1) == (rd l1 x13_1)) = true := beq_iff_eq.mpr c8
         have c8b1 : ((rd l0 x13_1) != (rd l1 x13_1)) = false := bne_eq_false_iff_eq.mpr c8
         clear c8
         have H' := Aside0.mk H
         clear H
         have p306 : 0 ≤ (x13_1 : Int) := of_decide_eq_true (by first | (with_reducible assumption) | assumption)
         have q306 : x13_1 < (l0.length : Int) := of_decide_eq_true (by first | (with_reducible assumption) | assumption)
         obtain ⟨ad306, e306, hx306_0⟩ := Kd.at_int HR0.out x13_1 p306 q306
         cases e306
         replace p306 := eq_true p306
         replace q306 := eq_true q306
         have p307 : 0 ≤ (x13_1 : Int) := of_decide_eq_true (by first | (with_reducible assumption) | assumption)
         have q307 : x13_1 < (l1.length : Int) := of_decide_eq_true (by first | (with_reducible assumption) | assumption)
         obtain ⟨ad307, e307, hx307_0⟩ := Kd.at_int HR1.out x13_1 p307 q307
         cases e307
         replace p307 := eq_true p307
         replace q307 := eq_true q307
         go_wp2
         repeat (go_quiet (fail); try go_wp2)
         go_roundg k1
         case measure => have := HK1.out; omega
         case rel => exact ⟨(wrap64 (x13_1 + 1)), (by first | rfl | (simp; done) | (simp [*]; done)), H', ⟨by have := HK1.out; omega⟩, by repeat (first | exact Drawn0.refl _ | apply Drawn0.step)⟩
        ·
         rw [if_neg c8] at H
         have c8b0 : ((rd l0 x13_1) == (rd l1 x13_1)) = false := beq_eq_false_iff_ne.mpr c8
         have c8b1 : ((rd l0 x13_1) != (rd l1 x13_1)) = true := bne_iff_ne.mpr c8
         obtain rfl := Option.some.inj H
         have p306 : 0 ≤ (x13_1 : Int) := of_decide_eq_true (by first | (with_reducible assumption) | assumption)
         have q306 : x13_1 < (l0.length : Int) := of_decide_eq_true (by first | (with_reducible assumption) | assumption)
         obtain ⟨ad306, e306, hx306_0⟩ := Kd.at_int HR0.out x13_1 p306 q306
         cases e306
         replace p306 := eq_true p306
         replace q306 := eq_true q306
         have p307 : 0 ≤ (x13_1 : Int) := of_decide_eq_true (by first | (with_reducible assumption) | assumption)
         have q307 : x13_1 < (l1.length : Int) := of_decide_eq_true (by first | (with_reducible assumption) | assumption)
         obtain ⟨ad307, e307, hx307_0⟩ := Kd.at_int HR1.out x13_1 p307 q307
         cases e307
         replace p307 := eq_true p307
         replace q307 := eq_true q307
         go_wp2
         repeat (go_quiet (fail); try go_wp2)
         go_ret
         exact ⟨by first | rfl | (simp; done) | (simp [*]; done), by repeat (first | exact Drawn0.refl _ | apply Drawn0.step)⟩
       ·
        rw [if_neg c7] at H
        exact absurd H (by simp)
      ·
       rw [if_neg c6] at H
       exact absurd H (by simp)
     ·
      rw [if_neg c5] at H
      exact absurd H (by simp)
    ·
     rw [if_neg c4] at H
     have c4b0 : decide (x13_1 < (l0.length : Int)) = false := decide_eq_false c4
     clear c4
     obtain rfl := Option.some.inj H
     go_wp2
     repeat (go_quiet (fail); try go_wp2)
     go_ret
     exact ⟨by first | rfl | (simp; done) | (simp [*]; done), by repeat (first | exact Drawn0.refl _ | apply Drawn0.step)⟩
 ·
  rw [if_neg c3] at H
  have c3b0 : ((l0.length : Int) == (l1.length : Int)) = false := beq_eq_false_iff_ne.mpr c3
  have c3b1 : ((l0.length : Int) != (l1.length : Int)) = true := bne_iff_ne.mpr c3
  have c3b2 : (l0.length == l1.length) = false := by first | simpa using c3 | (simp at c3 ⊢; omega)
  obtain rfl := Option.some.inj H
  go_enter Tryd.func37, Tryd.ntmps37
  go_wp2
  repeat (go_quiet (fail); try go_wp2)
  go_ret
  exact ⟨by first | rfl | (simp; done) | (simp [*]; done), by repeat (first | exact Drawn0.refl _ | apply Drawn0.step)⟩
def course_Density.f (k : Nat) (a0_0 : Int) (a0_1 : Int) (l0_2 : List (S26)) (a1_0 : Int) (a1_1 : Int) (a1_2 : Int) (a1_3 : Int) (a1_4 : Int) (a1_5 : Int) (a1_6 : Int) (a1_7 : Int) (l1_8 : List (S71)) (a2 : Int) (a3 : Int) : Option (Int × Int × Int) := (course_stakeOf.f k a0_0 a0_1 l0_2 a1_0 a1_1 a1_2 a1_3 a1_4 a1_5 a1_6 a1_7 l1_8 a2 a3).bind fun t311 => (if t311 = 0 then (if 0 ≤ a2 then (if a2 < (l1_8.length : Int) then (if ((rd_T71 l1_8 a2).f0) = 0 then (some (0, 0, 4)) else ((course_turns.f k a0_0 a0_1 l0_2 a1_0 a1_1 a1_2 a1_3 a1_4 a1_5 a1_6 a1_7 l1_8 a3).bind fun bt314 => (if bt314.2.2 = 0 then ((course_snow.f a1_0 a1_1 a1_2 a1_3 a1_4 a1_5 a1_6 a1_7 l1_8 ((rd_T71 l1_8 a2).f0) ((rd_T71 l1_8 a2).f1) ((rd_T71 l1_8 a2).f2) ((rd_T71 l1_8 a2).f3) ((rd_T71 l1_8 a2).f4) bt314.1 bt314.2.1).bind fun bt318 => (if (wrap64 ((wrap64 (20 * a1_5)) * ((rd_T71 l1_8 a2).f0))) = 0 then (none) else ((course_up.f (wrap64 (1000 * bt318.2)) (wrap64 (a1_5 * ((rd_T71 l1_8 a2).f0)))).bind fun t320 => (some (wrap64 (Int.tdiv (wrap64 (1000 * bt318.1)) (wrap64 ((wrap64 (20 * a1_5)) * ((rd_T71 l1_8 a2).f0)))), t320, 0))))) else (some (0, 0, bt314.2.2))))) else (none)) else (none)) else (some (0, 0, t311)))
theorem course_Density.mono : ∀ a0 a1 a2 a3 a4 a5 a6 a7 a8 a9 a10 a11 a12 a13 k, LeO (course_Density.f k a0 a1 a2 a3 a4 a5 a6 a7 a8 a9 a10 a11 a12 a13) (course_Density.f (k + 1) a0 a1 a2 a3 a4 a5 a6 a7 a8 a9 a10 a11 a12 a13) := by
 intro a0 a1 a2 a3 a4 a5 a6 a7 a8 a9 a10 a11 a12 a13 k
 unfold course_Density.f
 repeat' first
   | (with_reducible exact course_stakeOf.mono _ _ _ _ _ _ _ _ _ _ _ _ _ _ _)
   | (with_reducible exact course_turns.mono _ _ _ _ _ _ _ _ _ _ _ _ _ _)
   | (with_reducible exact LeO.refl _)
   | (with_reducible exact LeO.none _)
   | (with_reducible refine LeO.ite ?_ ?_)
   | (with_reducible refine LeO.bind ?_ (fun _ => ?_))
   | exact course_stakeOf.mono _ _ _ _ _ _ _ _ _ _ _ _ _ _ _
   | exact course_turns.mono _ _ _ _ _ _ _ _ _ _ _ _ _ _
   | exact LeO.none _
   | refine LeO.ite ?_ ?_
   | refine LeO.bind ?_ (fun _ => ?_)
def course_Density.T11 : Bool × List (List Nat × List Nat) := (true, [([], []), ([0], [0]), ([], []), ([2], [2]), ([3], [3]), ([], []), ([5], [5]), ([4, 6], [4, 6]), ([1, 7], [1, 7]), ([], []), ([9], [9]), ([], []), ([11], [11]), ([], []), ([13], [13]), ([12, 14], [12, 14]), ([10, 15], [10, 15]), ([8, 16], [8, 16]), ([17, 16, 0, 1, 2, 3, 4, 5, 6, 7, 8, 9, 10, 11, 12, 13, 14, 15, 16, 17], [17]), ([18, 0, 1, 2, 3, 4, 5, 6, 7, 8, 9, 10, 11, 12, 13, 14, 15, 16, 17, 18], [])])
def course_Density.B11 : List Nat := [0, 1, 0, 4, 12, 0, 32, 124, 255, 0, 512, 0, 2048, 0, 8192, 30720, 65024, 131071, 262143, 524287]
theorem course_Density.tab11 : rtab .any (opsOf Tryd.f44 11) = course_Density.T11 := by kernel_rfl
theorem course_Density.bits11 : waitsOk course_Density.T11.2 course_Density.B11 = true := by kernel_rfl
set_option maxHeartbeats 8000000 in
set_option maxRecDepth 100000 in
theorem course_Density.calls (k : Nat) (a0_0 : Int) (a0_1 : Int) (A0_2 : Option Addr) (c0_2 : Nat) (l0_2 : List (S26)) (a1_0 : Int) (a1_1 : Int) (a1_2 : Int) (a1_3 : Int) (a1_4 : Int) (a1_5 : Int) (a1_6 : Int) (a1_7 : Int) (A1_8 : Option Addr) (c1_8 : Nat) (l1_8 : List (S71)) (a2 : Int) (a3 : Int) (r1 : Int) (r2 : Int) (r3 : Int) (w : World) (hr0_2 : Kd.C k26 w A0_2 l0_2.length l0_2) (hc0_2 : l0_2.length ≤ c0_2) (hr1_8 : Kd.C k71 w A1_8 l1_8.length l1_8) (hc1_8 : l1_8.length ≤ c1_8) (h : course_Density.f k a0_0 a0_1 l0_2 a1_0 a1_1 a1_2 a1_3 a1_4 a1_5 a1_6 a1_7 l1_8 a2 a3 = some (r1, r2, r3)) :
  Calls Tryd.prog 44 #[.agg #[.int .i64 a0_0, .int .i64 a0_1, .slice A0_2 l0_2.length c0_2], .agg #[.int .i64 a1_0, .int .i64 a1_1, .int .i64 a1_2, .int .i64 a1_3, .int .i64 a1_4, .int .i64 a1_5, .int .i64 a1_6, .int .i64 a1_7, .slice A1_8 l1_8.length c1_8], .int .i64 a2, .int .i64 a3] w fun e w' => e = .returned (.tuple #[.agg #[.int .i64 r1, .int .i64 r2], .int .i64 r3]) ∧ Below w.heap.size w w' := by
 have hu24 := Tryd.underlying24
 have hu47 := Tryd.underlying47
 have hu40 := Tryd.underlying40
 have hu71 := Tryd.underlying71
 have hu103 := Tryd.underlying103
 have HR0_2 := Aside0.mk (hr0_2)
 have HC0_2 := Aside0.mk (hc0_2)
 clear hr0_2 hc0_2
 have HR1_8 := Aside0.mk (hr1_8)
 have HC1_8 := Aside0.mk (hc1_8)
 clear hr1_8 hc1_8
 have HB := Bw.mk (Below.refl w.heap.size w)
 have H : ((course_stakeOf.f k a0_0 a0_1 l0_2 a1_0 a1_1 a1_2 a1_3 a1_4 a1_5 a1_6 a1_7 l1_8 a2 a3).bind fun t311 => (if t311 = 0 then (if 0 ≤ a2 then (if a2 < (l1_8.length : Int) then (if ((rd_T71 l1_8 a2).f0) = 0 then (some (0, 0, 4)) else ((course_turns.f k a0_0 a0_1 l0_2 a1_0 a1_1 a1_2 a1_3 a1_4 a1_5 a1_6 a1_7 l1_8 a3).bind fun bt314 => (if bt314.2.2 = 0 then ((course_snow.f a1_0 a1_1 a1_2 a1_3 a1_4 a1_5 a1_6 a1_7 l1_8 ((rd_T71 l1_8 a2).f0) ((rd_T71 l1_8 a2).f1) ((rd_T71 l1_8 a2).f2) ((rd_T71 l1_8 a2).f3) ((rd_T71 l1_8 a2).f4) bt314.1 bt314.2.1).bind fun bt318 => (if (wrap64 ((wrap64 (20 * a1_5)) * ((rd_T71 l1_8 a2).f0))) = 0 then (none) else ((course_up.f (wrap64 (1000 * bt318.2)) (wrap64 (a1_5 * ((rd_T71 l1_8 a2).f0)))).bind fun t320 => (some (wrap64 (Int.tdiv (wrap64 (1000 * bt318.1)) (wrap64 ((wrap64 (20 * a1_5)) * ((rd_T71 l1_8 a2).f0)))), t320, 0))))) else (some (0, 0, bt314.2.2))))) else (none)) else (none)) else (some (0, 0, t311)))) = some (r1, r2, r3) := h
 clear h
 replace H := Option.bind_eq_some_iff.mp H
 obtain ⟨t311, A50, H⟩ := H
 have A5 := Aside0.mk (A50)
 clear A50
 by_cases c6 : t311 = 0
 ·
  rw [if_pos c6] at H
  have c6b0 : (t311 == 0) = true := beq_iff_eq.mpr c6
  have c6b1 : (t311 != 0) = false := bne_eq_false_iff_eq.mpr c6
  clear c6
  by_cases c7 : 0 ≤ a2
  ·
   rw [if_pos c7] at H
   have c7b0 : decide (0 ≤ a2) = true := decide_eq_true c7
   clear c7
   by_cases c8 : a2 < (l1_8.length : Int)
   ·
    rw [if_pos c8] at H
    have c8b0 : decide (a2 < (l1_8.length : Int)) = true := decide_eq_true c8
    clear c8
    by_cases c9 : ((rd_T71 l1_8 a2).f0) = 0
    ·
     rw [if_pos c9] at H
     have c9b0 : (((rd_T71 l1_8 a2).f0) == 0) = true := beq_iff_eq.mpr c9
     have c9b1 : (((rd_T71 l1_8 a2).f0) != 0) = false := bne_eq_false_iff_eq.mpr c9
     clear c9
     simp only [Option.some.injEq, Prod.mk.injEq] at H
     obtain ⟨rfl, rfl, rfl⟩ := H
     go_enter Tryd.func44, Tryd.ntmps44
     go_wp2_with (first | ((with_reducible refine gate_dst (N := 4) rfl ?_); refine bxE 4 24 #[.int .i64 a0_0, .int .i64 a0_1, .slice A0_2 l0_2.length c0_2] (by rfl) (by rfl) (by first | (go_simp; done) | (go_simp; rfl)) ?_; intro gb308 hg w10 hbox hb; have BK308 := Bk.mk (hbox); have GE308 := eB w hg; replace HB := bS w hb; clear hb hbox hg) | ((with_reducible refine gate_dst (N := 5) rfl ?_); refine bxE 5 47 #[.int .i64 a1_0, .int .i64 a1_1, .int .i64 a1_2, .int .i64 a1_3, .int .i64 a1_4, .int .i64 a1_5, .int .i64 a1_6, .int .i64 a1_7, .slice A1_8 l1_8.length c1_8] (by rfl) (by rfl) (by first | (go_simp; done) | (go_simp; rfl)) ?_; intro gb309 hg w11 hbox hb; have BK309 := Bk.mk (hbox); have GE309 := eB w hg; have NB308_309 := nB gb308 hg; replace BK308 := kB gb308 hb; replace HB := bS w hb; clear hb hbox hg) | ((with_reducible refine gate_dst (N := 8) rfl ?_); refine bxE 8 40 #[.int .i64 0, .int .i64 0] (by rfl) (by rfl) (by first | (go_simp; done) | (go_simp; rfl)) ?_; intro gb310 hg w12 hbox hb; have BK310 := Bk.mk (hbox); have GE310 := eB w hg; have NB308_310 := nB gb308 hg; have NB309_310 := nB gb309 hg; replace BK308 := kB gb308 hb; replace BK309 := kB gb309 hb; replace HB := bS w hb; clear hb hbox hg; obtain ⟨hnb13, hnc13⟩ := nn NB308_309; obtain ⟨hnb14, hnc14⟩ := nn NB308_310; obtain ⟨hcz15_0, hcz15_1, hcz15_2, hfz15_0, hfz15_1, hfz15_2⟩ := cz3 BK308; obtain ⟨hnb16, hnc16⟩ := nn NB309_310; obtain ⟨hcz17_0, hcz17_1, hcz17_2, hcz17_3, hcz17_4, hcz17_5, hcz17_6, hcz17_7, hcz17_8, hfz17_0, hfz17_1, hfz17_2, hfz17_3, hfz17_4, hfz17_5, hfz17_6, hfz17_7, hfz17_8⟩ := cz9 BK309) | ((with_reducible refine gate_callee (f := 104) rfl ?_); refine goesLM (some 20) rfl rfl Tryd.func104 (by kernel_rfl) rfl #[.agg #[.int .i64 a0_0, .int .i64 a0_1, .slice A0_2 l0_2.length c0_2], .agg #[.int .i64 a1_0, .int .i64 a1_1, .int .i64 a1_2, .int .i64 a1_3, .int .i64 a1_4, .int .i64 a1_5, .int .i64 a1_6, .int .i64 a1_7, .slice A1_8 l1_8.length c1_8], .int .i64 a2, .int .i64 a3] rfl (by rfl) ?_; (with_reducible refine (course_stakeOf.calls k a0_0 a0_1 _ _ l0_2 a1_0 a1_1 a1_2 a1_3 a1_4 a1_5 a1_6 a1_7 _ _ l1_8 a2 a3 t311 _ ?side1 ?side2 ?side3 ?side4 A5.out).mono ?_); (case side1 => exact cP (Kd.C_below HR0_2.out HB.out)); (case side2 => exact HC0_2.out); (case side3 => exact cP (Kd.C_below HR1_8.out HB.out)); (case side4 => exact HC1_8.out); rintro e w18 ⟨rfl, hb⟩; refine ⟨_, rfl, ?_⟩; replace BK308 := kB gb308 hb; replace BK309 := kB gb309 hb; replace BK310 := kB gb310 hb; replace HB := bS w hb; (try clear hb); obtain ⟨hcz19_0, hcz19_1, hcz19_2, hcz19_3, hcz19_4, hcz19_5, hcz19_6, hcz19_7, hcz19_8, hfz19_0, hfz19_1, hfz19_2, hfz19_3, hfz19_4, hfz19_5, hfz19_6, hfz19_7, hfz19_8⟩ := cz9 BK309; have p312 : 0 ≤ (a2 : Int) := of_decide_eq_true (by first | (with_reducible assumption) | assumption); have q312 : a2 < (l1_8.length : Int) := of_decide_eq_true (by first | (with_reducible assumption) | assumption); obtain ⟨ad312, e312, hx312_0, hx312_1, hx312_2, hx312_3, hx312_4⟩ := at_T71 HR1_8.out a2 p312 q312; cases e312; replace hx312_0 := cB HB hx312_0; replace hx312_1 := cB HB hx312_1; replace hx312_2 := cB HB hx312_2; replace hx312_3 := cB HB hx312_3; replace hx312_4 := cB HB hx312_4; replace p312 := eq_true p312; replace q312 := eq_true q312) | ((with_reducible refine gate_dst (N := 11) rfl ?_); refine bxE 11 71 #[.int .i64 0, .int .i64 0, .int .i64 0, .int .i64 0, .int .i64 0] (by rfl) (by rfl) (by first | (go_simp; done) | (go_simp; rfl)) ?_; intro gb313 hg w20 hbox hb; have BK313 := Bk.mk (hbox); have GE313 := eB w hg; have NB308_313 := nB gb308 hg; have NB309_313 := nB gb309 hg; have NB310_313 := nB gb310 hg; replace BK308 := kB gb308 hb; replace BK309 := kB gb309 hb; replace BK310 := kB gb310 hb; replace HB := bS w hb; clear hb hbox hg; obtain ⟨hnc21, hnb21⟩ := nn NB308_313; obtain ⟨hnc22, hnb22⟩ := nn NB309_313; obtain ⟨hnc23, hnb23⟩ := nn NB310_313; obtain ⟨hcz24_0, hcz24_1, hcz24_2, hcz24_3, hcz24_4, hfz24_0, hfz24_1, hfz24_2, hfz24_3, hfz24_4⟩ := cz5 BK313; obtain ⟨hcz25_0, hcz25_1, hfz25_0, hfz25_1⟩ := cz2 BK310))
     all_goals (refine bodyPost_ret (results_ct rfl _ _ gb310 40 #[.int .i64 0, .int .i64 0] (0, 0) _ rfl (bko gb310 (by rfl)) Tryd.underlying40 rfl (by kernel_rfl)) rfl ?_; exact ⟨by first | rfl | (simp [errW_none, errW_some] <;> rfl) | (simp [*, errW_none, errW_some] <;> rfl), bw w⟩)
    ·
     rw [if_neg c9] at H
     have c9b0 : (((rd_T71 l1_8 a2).f0) == 0) = false := beq_eq_false_iff_ne.mpr c9
     have c9b1 : (((rd_T71 l1_8 a2).f0) != 0) = true := bne_iff_ne.mpr c9
     replace H := Option.bind_eq_some_iff.mp H
     obtain ⟨⟨t314, t315, t316⟩, A260, H⟩ := H
     have A26 := Aside0.mk (A260)
     clear A260
     by_cases c27 : t316 = 0
     ·
      rw [if_pos c27] at H
      have c27b0 : (t316 == 0) = true := beq_iff_eq.mpr c27
      have c27b1 : (t316 != 0) = false := bne_eq_false_iff_eq.mpr c27
      clear c27
      replace H := Option.bind_eq_some_iff.mp H
      obtain ⟨⟨t318, t319⟩, A280, H⟩ := H
      have A28 := Aside0.mk (A280)
      clear A280
      by_cases c29 : (wrap64 ((wrap64 (20 * a1_5)) * ((rd_T71 l1_8 a2).f0))) = 0
      ·
       rw [if_pos c29] at H
       exact absurd H (by simp)
      ·
       rw [if_neg c29] at H
       have c29b0 : ((wrap64 ((wrap64 (20 * a1_5)) * ((rd_T71 l1_8 a2).f0))) == 0) = false := beq_eq_false_iff_ne.mpr c29
       have c29b1 : ((wrap64 ((wrap64 (20 * a1_5)) * ((rd_T71 l1_8 a2).f0))) != 0) = true := bne_iff_ne.mpr c29
       replace H := Option.bind_eq_some_iff.mp H
       obtain ⟨t320, A300, H⟩ := H
       have A30 := Aside0.mk (A300)
       clear A300
       simp only [Option.some.injEq, Prod.mk.injEq] at H
       obtain ⟨rfl, rfl, rfl⟩ := H
       go_enter Tryd.func44, Tryd.ntmps44
       try go_wp2_with (first | ((with_reducible refine gate_dst (N := 4) rfl ?_); refine bxE 4 24 #[.int .i64 a0_0, .int .i64 a0_1, .slice A0_2 l0_2.length c0_2] (by rfl) (by rfl) (by first | (go_simp; done) | (go_simp; rfl)) ?_; intro gb308 hg w31 hbox hb; have BK308 := Bk.mk (hbox); have GE308 := eB w hg; replace HB := bS w hb; clear hb hbox hg) | ((with_reducible refine gate_dst (N := 5) rfl ?_); refine bxE 5 47 #[.int .i64 a1_0, .int .i64 a1_1, .int .i64 a1_2, .int .i64 a1_3, .int .i64 a1_4, .int .i64 a1_5, .int .i64 a1_6, .int .i64 a1_7, .slice A1_8 l1_8.length c1_8] (by rfl) (by rfl) (by first | (go_simp; done) | (go_simp; rfl)) ?_; intro gb309 hg w32 hbox hb; have BK309 := Bk.mk (hbox); have GE309 := eB w hg; have NB308_309 := nB gb308 hg; replace BK308 := kB gb308 hb; replace HB := bS w hb; clear hb hbox hg) | ((with_reducible refine gate_dst (N := 8) rfl ?_); refine bxE 8 40 #[.int .i64 0, .int .i64 0] (by rfl) (by rfl) (by first | (go_simp; done) | (go_simp; rfl)) ?_; intro gb310 hg w33 hbox hb; have BK310 := Bk.mk (hbox); have GE310 := eB w hg; have NB308_310 := nB gb308 hg; have NB309_310 := nB gb309 hg; replace BK308 := kB gb308 hb; replace BK309 := kB gb309 hb; replace HB := bS w hb; clear hb hbox hg; obtain ⟨hnb34, hnc34⟩ := nn NB308_309; obtain ⟨hnb35, hnc35⟩ := nn NB308_310; obtain ⟨hcz36_0, hcz36_1, hcz36_2, hfz36_0, hfz36_1, hfz36_2⟩ := cz3 BK308; obtain ⟨hnb37, hnc37⟩ := nn NB309_310; obtain ⟨hcz38_0, hcz38_1, hcz38_2, hcz38_3, hcz38_4, hcz38_5, hcz38_6, hcz38_7, hcz38_8, hfz38_0, hfz38_1, hfz38_2, hfz38_3, hfz38_4, hfz38_5, hfz38_6, hfz38_7, hfz38_8⟩ := cz9 BK309) | ((with_reducible refine gate_callee (f := 104) rfl ?_); refine goesLM (some 20) rfl rfl Tryd.func104 (by kernel_rfl) rfl #[.agg #[.int .i64 a0_0, .int .i64 a0_1, .slice A0_2 l0_2.length c0_2], .agg #[.int .i64 a1_0, .int .i64 a1_1, .int .i64 a1_2, .int .i64 a1_3, .int .i64 a1_4, .int .i64 a1_5, .int .i64 a1_6, .int .i64 a1_7, .slice A1_8 l1_8.length c1_8], .int .i64 a2, .int .i64 a3] rfl (by rfl) ?_; (with_reducible refine (course_stakeOf.calls k a0_0 a0_1 _ _ l0_2 a1_0 a1_1 a1_2 a1_3 a1_4 a1_5 a1_6 a1_7 _ _ l1_8 a2 a3 t311 _ ?side1 ?side2 ?side3 ?side4 A5.out).mono ?_); (case side1 => exact cP (Kd.C_below HR0_2.out HB.out)); (case side2 => exact HC0_2.out); (case side3 => exact cP (Kd.C_below HR1_8.out HB.out)); (case side4 => exact HC1_8.out); rintro e w39 ⟨rfl, hb⟩; refine ⟨_, rfl, ?_⟩; replace BK308 := kB gb308 hb; replace BK309 := kB gb309 hb; replace BK310 := kB gb310 hb; replace HB := bS w hb; (try clear hb); obtain ⟨hcz40_0, hcz40_1, hcz40_2, hcz40_3, hcz40_4, hcz40_5, hcz40_6, hcz40_7, hcz40_8, hfz40_0, hfz40_1, hfz40_2, hfz40_3, hfz40_4, hfz40_5, hfz40_6, hfz40_7, hfz40_8⟩ := cz9 BK309; have p312 : 0 ≤ (a2 : Int) := of_decide_eq_true (by first | (with_reducible assumption) | assumption); have q312 : a2 < (l1_8.length : Int) := of_decide_eq_true (by first | (with_reducible assumption) | assumption); obtain ⟨ad312, e312, hx312_0, hx312_1, hx312_2, hx312_3, hx312_4⟩ := at_T71 HR1_8.out a2 p312 q312; cases e312; replace hx312_0 := cB HB hx312_0; replace hx312_1 := cB HB hx312_1; replace hx312_2 := cB HB hx312_2; replace hx312_3 := cB HB hx312_3; replace hx312_4 := cB HB hx312_4; replace p312 := eq_true p312; replace q312 := eq_true q312) | ((with_reducible refine gate_dst (N := 11) rfl ?_); refine bxE 11 71 #[.int .i64 0, .int .i64 0, .int .i64 0, .int .i64 0, .int .i64 0] (by rfl) (by rfl) (by first | (go_simp; done) | (go_simp; rfl)) ?_; intro gb313 hg w41 hbox hb; have BK313 := Bk.mk (hbox); have GE313 := eB w hg; have NB308_313 := nB gb308 hg; have NB309_313 := nB gb309 hg; have NB310_313 := nB gb310 hg; replace BK308 := kB gb308 hb; replace BK309 := kB gb309 hb; replace BK310 := kB gb310 hb; replace HB := bS w hb; clear hb hbox hg; obtain ⟨hnc42, hnb42⟩ := nn NB308_313; obtain ⟨hnc43, hnb43⟩ := nn NB309_313; obtain ⟨hnc44, hnb44⟩ := nn NB310_313; obtain ⟨hcz45_0, hcz45_1, hcz45_2, hcz45_3, hcz45_4, hfz45_0, hfz45_1, hfz45_2, hfz45_3, hfz45_4⟩ := cz5 BK313; obtain ⟨hcz46_0, hcz46_1, hcz46_2, hfz46_0, hfz46_1, hfz46_2⟩ := cz3 BK308; obtain ⟨hcz47_0, hcz47_1, hcz47_2, hcz47_3, hcz47_4, hcz47_5, hcz47_6, hcz47_7, hcz47_8, hfz47_0, hfz47_1, hfz47_2, hfz47_3, hfz47_4, hfz47_5, hfz47_6, hfz47_7, hfz47_8⟩ := cz9 BK309) | ((with_reducible refine gate_callee (f := 105) rfl ?_); refine goesLM (some 38) rfl rfl Tryd.func105 (by kernel_rfl) rfl #[.agg #[.int .i64 a0_0, .int .i64 a0_1, .slice A0_2 l0_2.length c0_2], .agg #[.int .i64 a1_0, .int .i64 a1_1, .int .i64 a1_2, .int .i64 a1_3, .int .i64 a1_4, .int .i64 a1_5, .int .i64 a1_6, .int .i64 a1_7, .slice (some ad312) l1_8.length c1_8], .int .i64 a3] rfl (by rfl) ?_; (with_reducible refine (course_turns.calls k a0_0 a0_1 _ _ l0_2 a1_0 a1_1 a1_2 a1_3 a1_4 a1_5 a1_6 a1_7 _ _ l1_8 a3 t314 t315 t316 _ ?side1 ?side2 ?side3 ?side4 A26.out).mono ?_); (case side1 => exact Kd.C_below HR0_2.out (bw w)); (case side2 => exact HC0_2.out); (case side3 => exact Kd.C_below HR1_8.out (bw w)); (case side4 => exact HC1_8.out); rintro e w48 ⟨rfl, hb⟩; refine ⟨_, rfl, ?_⟩; replace BK308 := kB gb308 hb; replace BK309 := kB gb309 hb; replace BK310 := kB gb310 hb; replace BK313 := kBo gb313 (.cells #[.int .i64 ((rd_T71 l1_8 a2).f0), .int .i64 ((rd_T71 l1_8 a2).f1), .int .i64 ((rd_T71 l1_8 a2).f2), .int .i64 ((rd_T71 l1_8 a2).f3), .int .i64 ((rd_T71 l1_8 a2).f4)] 71 (0, 0)) hb (by rfl); replace HB := bS w hb; (try clear hb)) | ((with_reducible refine gate_dst (N := 12) rfl ?_); refine bxE 12 103 #[.int .i64 0, .int .i64 0] (by rfl) (by rfl) (by first | (go_simp; done) | (go_simp; rfl)) ?_; intro gb317 hg w49 hbox hb; have BK317 := Bk.mk (hbox); have GE317 := eB w hg; have NB308_317 := nB gb308 hg; have NB309_317 := nB gb309 hg; have NB310_317 := nB gb310 hg; have NB313_317 := nB gb313 hg; replace BK308 := kB gb308 hb; replace BK309 := kB gb309 hb; replace BK310 := kB gb310 hb; replace BK313 := kB gb313 hb; replace HB := bS w hb; clear hb hbox hg; obtain ⟨hnc50, hnb50⟩ := nn NB308_317; obtain ⟨hnc51, hnb51⟩ := nn NB309_317; obtain ⟨hnc52, hnb52⟩ := nn NB310_317; obtain ⟨hnc53, hnb53⟩ := nn NB313_317; obtain ⟨hcz54_0, hcz54_1, hfz54_0, hfz54_1⟩ := cz2 BK317; obtain ⟨hcz55_0, hcz55_1, hcz55_2, hcz55_3, hcz55_4, hcz55_5, hcz55_6, hcz55_7, hcz55_8, hfz55_0, hfz55_1, hfz55_2, hfz55_3, hfz55_4, hfz55_5, hfz55_6, hfz55_7, hfz55_8⟩ := cz9 BK309; obtain ⟨hcz56_0, hcz56_1, hcz56_2, hcz56_3, hcz56_4, hfz56_0, hfz56_1, hfz56_2, hfz56_3, hfz56_4⟩ := cz5 BK313) | ((with_reducible refine gate_callee (f := 86) rfl ?_); refine goesLM (some 49) rfl rfl Tryd.func86 (by kernel_rfl) rfl #[.agg #[.int .i64 a1_0, .int .i64 a1_1, .int .i64 a1_2, .int .i64 a1_3, .int .i64 a1_4, .int .i64 a1_5, .int .i64 a1_6, .int .i64 a1_7, .slice (some ad312) l1_8.length c1_8], .agg #[.int .i64 ((rd_T71 l1_8 a2).f0), .int .i64 ((rd_T71 l1_8 a2).f1), .int .i64 ((rd_T71 l1_8 a2).f2), .int .i64 ((rd_T71 l1_8 a2).f3), .int .i64 ((rd_T71 l1_8 a2).f4)], .agg #[.int .i64 t314, .int .i64 t315]] rfl (by rfl) ?_; (with_reducible refine (course_snow.calls a1_0 a1_1 a1_2 a1_3 a1_4 a1_5 a1_6 a1_7 _ _ l1_8 ((rd_T71 l1_8 a2).f0) ((rd_T71 l1_8 a2).f1) ((rd_T71 l1_8 a2).f2) ((rd_T71 l1_8 a2).f3) ((rd_T71 l1_8 a2).f4) t314 t315 t318 t319 _ ?side1 ?side2 A28.out).mono ?_); (case side1 => exact Kd.C_below HR1_8.out (bw w)); (case side2 => exact HC1_8.out); rintro e w57 ⟨rfl, hb⟩; refine ⟨_, rfl, ?_⟩; replace BK308 := kB gb308 hb; replace BK309 := kB gb309 hb; replace BK310 := kB gb310 hb; replace BK313 := kB gb313 hb; replace BK317 := kBo gb317 (.cells #[.int .i64 t314, .int .i64 t315] 103 (0, 0)) hb (by rfl); replace HB := bS w hb; (try clear hb)))
       have n0_ := Bk.mk (blk_drew BK308.out)
       have n1_ := Bk.mk (blk_drew BK309.out)
       have n2_ := Bk.mk (blk_drew BK310.out)
       have n3_ := Bk.mk (blk_drew BK313.out)
       have n4_ := Bk.mk (blk_drew BK317.out)
       have n5_ := Bw.mk (below_drew1 HB.out)
       clear BK308 BK309 BK310 BK313 BK317 HB
       have BK308 := n0_
       have BK309 := n1_
       have BK310 := n2_
       have BK313 := n3_
       have BK317 := n4_
       have HB := n5_
       clear n0_ n1_ n2_ n3_ n4_ n5_
       refine start_ (n := 20) (S := fun w' => w'.cell? ⟨gb309, 0, none⟩ = some (.int .i64 a1_0) ∧ w'.cell? ⟨gb309, 1, none⟩ = some (.int .i64 a1_1) ∧ w'.cell? ⟨gb309, 2, none⟩ = some (.int .i64 a1_2) ∧ w'.cell? ⟨gb309, 3, none⟩ = some (.int .i64 a1_3) ∧ w'.cell? ⟨gb309, 4, none⟩ = some (.int .i64 a1_4) ∧ w'.cell? ⟨gb309, 5, none⟩ = some (.int .i64 a1_5) ∧ w'.cell? ⟨gb309, 6, none⟩ = some (.int .i64 a1_6) ∧ w'.cell? ⟨gb309, 7, none⟩ = some (.int .i64 a1_7) ∧ w'.cell? ⟨gb309, 8, none⟩ = some (.slice (some ad312) l1_8.length c1_8) ∧ w'.cell? ⟨gb313, 0, none⟩ = some (.int .i64 ((rd_T71 l1_8 a2).f0)) ∧ w'.cell? ⟨gb313, 1, none⟩ = some (.int .i64 ((rd_T71 l1_8 a2).f1)) ∧ w'.cell? ⟨gb313, 2, none⟩ = some (.int .i64 ((rd_T71 l1_8 a2).f2)) ∧ w'.cell? ⟨gb313, 3, none⟩ = some (.int .i64 ((rd_T71 l1_8 a2).f3)) ∧ w'.cell? ⟨gb313, 4, none⟩ = some (.int .i64 ((rd_T71 l1_8 a2).f4))) (ds := []) #[false, false, false, false, false, false, false, false, false, false, false, false, false, false, false, false, false, false, false, false] (by kernel_rfl) rfl rfl ⟨bc BK309 0, bc BK309 1, bc BK309 2, bc BK309 3, bc BK309 4, bc BK309 5, bc BK309 6, bc BK309 7, bc BK309 8, bc BK313 0, bc BK313 1, bc BK313 2, bc BK313 3, bc BK313 4⟩ (fun hHeld => ?_); refine with_tabW course_Density.tab11 course_Density.bits11 (fun HT_ HW_ => ?_)
       generalize w57.drew = w58 at BK308 BK309 BK310 BK313 BK317 HB hHeld ⊢
       refine pS 0 (some 52) rfl rfl (any_of HT_.out (by kernel_rfl)) (fun _ _ _ h => h) (by rfl) (fun w' => by go_simp; with_reducible rfl) (by simp only [Act.put, List.setIfInBounds_toArray, List.set_cons_zero, List.set_cons_succ, i64_w]; rfl) ?_
       refine pS 1 (some 53) rfl rfl (any_of HT_.out (by kernel_rfl)) (fun _ _ _ h => h) (by rfl) (fun w' => by go_simp; with_reducible rfl) (by simp only [Act.put, List.setIfInBounds_toArray, List.set_cons_zero, List.set_cons_succ, i64_w]; rfl) ?_
       refine pS 2 (some 54) rfl rfl (any_of HT_.out (by kernel_rfl)) (fun _ _ _ h => h) (by rfl) (fun w' => by go_simp; with_reducible rfl) (by simp only [Act.put, List.setIfInBounds_toArray, List.set_cons_zero, List.set_cons_succ, i64_w]; rfl) ?_
       refine pS 5 (some 57) rfl rfl (any_of HT_.out (by kernel_rfl)) (fun _ _ _ h => h) (by rfl) (fun w' => by go_simp; with_reducible rfl) (by simp only [Act.put, List.setIfInBounds_toArray, List.set_cons_zero, List.set_cons_succ, i64_w]; rfl) ?_
       refine pS 9 (some 61) rfl rfl (any_of HT_.out (by kernel_rfl)) (fun _ _ _ h => h) (by rfl) (fun w' => by go_simp; with_reducible rfl) (by simp only [Act.put, List.setIfInBounds_toArray, List.set_cons_zero, List.set_cons_succ, i64_w]; rfl) ?_
       refine pS 10 (some 62) rfl rfl (any_of HT_.out (by kernel_rfl)) (fun _ _ _ h => h) (by rfl) (fun w' => by go_simp; with_reducible rfl) (by simp only [Act.put, List.setIfInBounds_toArray, List.set_cons_zero, List.set_cons_succ, i64_w]; rfl) ?_
       refine pS 11 (some 63) rfl rfl (any_of HT_.out (by kernel_rfl)) (fun _ _ _ h => h) (by rfl) (fun w' => by go_simp; with_reducible rfl) (by simp only [Act.put, List.setIfInBounds_toArray, List.set_cons_zero, List.set_cons_succ, i64_w]; rfl) ?_
       refine pS 13 (some 65) rfl rfl (any_of HT_.out (by kernel_rfl)) (fun _ _ _ h => h) (by rfl) (fun w' => by go_simp; with_reducible rfl) (by simp only [Act.put, List.setIfInBounds_toArray, List.set_cons_zero, List.set_cons_succ, i64_w]; rfl) ?_
       refine tS 3 (some 55) rfl rfl (take_ofW HT_.out HW_.out (by kernel_rfl)) (fun _ _ _ h => h) (by rfl) (by rintro w' ⟨s0, s1, s2, s3, s4, s5, s6, s7, s8, s9, s10, s11, s12, s13⟩; go_simp; with_reducible rfl) hHeld (by simp only [Act.put, List.setIfInBounds_toArray, List.set_cons_zero, List.set_cons_succ, i64_w]; rfl) ?_
       refine pS 4 (some 56) rfl rfl (any_of HT_.out (by kernel_rfl)) (fun _ _ _ h => h) (by rfl) (fun w' => by go_simp; with_reducible rfl) (by simp only [Act.put, List.setIfInBounds_toArray, List.set_cons_zero, List.set_cons_succ, i64_w]; rfl) ?_
       refine tS 6 (some 58) rfl rfl (take_ofW HT_.out HW_.out (by kernel_rfl)) (fun _ _ _ h => h) (by rfl) (by rintro w' ⟨s0, s1, s2, s3, s4, s5, s6, s7, s8, s9, s10, s11, s12, s13⟩; go_simp; with_reducible rfl) hHeld (by simp only [Act.put, List.setIfInBounds_toArray, List.set_cons_zero, List.set_cons_succ, i64_w]; rfl) ?_
       refine pS 7 (some 59) rfl rfl (any_of HT_.out (by kernel_rfl)) (fun _ _ _ h => h) (by rfl) (fun w' => by go_simp; with_reducible rfl) (by simp only [Act.put, List.setIfInBounds_toArray, List.set_cons_zero, List.set_cons_succ, i64_w]; rfl) ?_
       refine pS 8 (some 60) rfl rfl (any_of HT_.out (by kernel_rfl)) (fun _ _ _ h => h) (by rfl) (fun w' => by go_simp; with_reducible rfl) (by simp only [Act.put, List.setIfInBounds_toArray, List.set_cons_zero, List.set_cons_succ, i64_w]; rfl) ?_
       refine tS 12 (some 64) rfl rfl (take_ofW HT_.out HW_.out (by kernel_rfl)) (fun _ _ _ h => h) (by rfl) (by rintro w' ⟨s0, s1, s2, s3, s4, s5, s6, s7, s8, s9, s10, s11, s12, s13⟩; go_simp; with_reducible rfl) hHeld (by simp only [Act.put, List.setIfInBounds_toArray, List.set_cons_zero, List.set_cons_succ, i64_w]; rfl) ?_
       refine tS 14 (some 66) rfl rfl (take_ofW HT_.out HW_.out (by kernel_rfl)) (fun _ _ _ h => h) (by rfl) (by rintro w' ⟨s0, s1, s2, s3, s4, s5, s6, s7, s8, s9, s10, s11, s12, s13⟩; go_simp; with_reducible rfl) hHeld (by simp only [Act.put, List.setIfInBounds_toArray, List.set_cons_zero, List.set_cons_succ, i64_w]; rfl) ?_
       refine pS 15 (some 67) rfl rfl (any_of HT_.out (by kernel_rfl)) (fun _ _ _ h => h) (by rfl) (fun w' => by go_simp; with_reducible rfl) (by simp only [Act.put, List.setIfInBounds_toArray, List.set_cons_zero, List.set_cons_succ, i64_w]; rfl) ?_
       refine one_ (i := 16) (N := some 68) #[true, true, true, true, true, true, true, true, true, true, true, true, true, true, true, true, true, false, false, false] rfl rfl (one_of HT_.out (by kernel_rfl)) (by decide) (fun K hK => ?_)
       refine goesM Tryd.func87 (by kernel_rfl) rfl #[.int .i64 (wrap64 (1000 * t319)), .int .i64 (wrap64 (a1_5 * ((rd_T71 l1_8 a2).f0)))] (by rfl) rfl rfl (by rfl) ?_
       with_reducible refine (course_up.calls (wrap64 (1000 * t319)) (wrap64 (a1_5 * ((rd_T71 l1_8 a2).f0))) t320 _ A30.out).mono ?_
       rintro e w' ⟨rfl, ⟨nd, rfl⟩⟩
       refine ⟨_, rfl, ?_⟩
       refine hK.out _ _ ⟨bc BK309 0, bc BK309 1, bc BK309 2, bc BK309 3, bc BK309 4, bc BK309 5, bc BK309 6, bc BK309 7, bc BK309 8, bc BK313 0, bc BK313 1, bc BK313 2, bc BK313 3, bc BK313 4⟩ (fun hHeld => ?_)
       clear hK K
       refine norm_ (a' := ?_) ?_ ?_
       rotate_left
       ·
        show Act.put _ (some 68) _ = _
        simp only [Act.put, List.setIfInBounds_toArray, List.set_cons_zero, List.set_cons_succ, i64_w]
        rfl
       refine pS 17 (some 69) rfl rfl (any_of HT_.out (by kernel_rfl)) (fun _ _ _ h => h) (by rfl) (fun w' => by go_simp; with_reducible rfl) (by simp only [Act.put, List.setIfInBounds_toArray, List.set_cons_zero, List.set_cons_succ, i64_w]; rfl) ?_
       refine one_ (i := 18) (N := none) #[true, true, true, true, true, true, true, true, true, true, true, true, true, true, true, true, true, true, true, false] rfl rfl (one_of HT_.out (by kernel_rfl)) (by decide) (fun K hK => ?_)
       have hs59 : w58.cell? ⟨gb310, 0, none⟩ = some (.int .i64 0) := bc BK310 0
       have hfs59 := blk_frozen BK310.out 0
       have hns59_0 := NB308_310.out
       have hns59_1 := NB309_310.out
       have hns59_3 := NB310_313.out.symm
       have hns59_4 := NB310_317.out.symm
       have hms59_0 := NB308_310.out.symm
       have hms59_1 := NB309_310.out.symm
       have hms59_3 := NB310_313.out
       have hms59_4 := NB310_317.out
       have hs60 : w58.cell? ⟨gb310, 1, none⟩ = some (.int .i64 0) := bc BK310 1
       have hfs60 := blk_frozen BK310.out 1
       have hns60_0 := NB308_310.out
       have hns60_1 := NB309_310.out
       have hns60_3 := NB310_313.out.symm
       have hns60_4 := NB310_317.out.symm
       have hms60_0 := NB308_310.out.symm
       have hms60_1 := NB309_310.out.symm
       have hms60_3 := NB310_313.out
       have hms60_4 := NB310_317.out
       refine skip_ (w1 := ?_) (by rfl) rfl ?_ ?_
       rotate_left
       ·
        go_simp
        rfl
       refine hK.out _ _ ⟨((cell_far (p := ⟨gb310, _, none⟩) NB309_310.out _).trans (((cell_far (p := ⟨gb310, _, none⟩) NB309_310.out _).trans (hHeld.1)))), ((cell_far (p := ⟨gb310, _, none⟩) NB309_310.out _).trans (((cell_far (p := ⟨gb310, _, none⟩) NB309_310.out _).trans (hHeld.2.1)))), ((cell_far (p := ⟨gb310, _, none⟩) NB309_310.out _).trans (((cell_far (p := ⟨gb310, _, none⟩) NB309_310.out _).trans (hHeld.2.2.1)))), ((cell_far (p := ⟨gb310, _, none⟩) NB309_310.out _).trans (((cell_far (p := ⟨gb310, _, none⟩) NB309_310.out _).trans (hHeld.2.2.2.1)))), ((cell_far (p := ⟨gb310, _, none⟩) NB309_310.out _).trans (((cell_far (p := ⟨gb310, _, none⟩) NB309_310.out _).trans (hHeld.2.2.2.2.1)))), ((cell_far (p := ⟨gb310, _, none⟩) NB309_310.out _).trans (((cell_far (p := ⟨gb310, _, none⟩) NB309_310.out _).trans (hHeld.2.2.2.2.2.1)))), ((cell_far (p := ⟨gb310, _, none⟩) NB309_310.out _).trans (((cell_far (p := ⟨gb310, _, none⟩) NB309_310.out _).trans (hHeld.2.2.2.2.2.2.1)))), ((cell_far (p := ⟨gb310, _, none⟩) NB309_310.out _).trans (((cell_far (p := ⟨gb310, _, none⟩) NB309_310.out _).trans (hHeld.2.2.2.2.2.2.2.1)))), ((cell_far (p := ⟨gb310, _, none⟩) NB309_310.out _).trans (((cell_far (p := ⟨gb310, _, none⟩) NB309_310.out _).trans (hHeld.2.2.2.2.2.2.2.2.1)))), ((cell_far (p := ⟨gb310, _, none⟩) NB310_313.out.symm _).trans (((cell_far (p := ⟨gb310, _, none⟩) NB310_313.out.symm _).trans (hHeld.2.2.2.2.2.2.2.2.2.1)))), ((cell_far (p := ⟨gb310, _, none⟩) NB310_313.out.symm _).trans (((cell_far (p := ⟨gb310, _, none⟩) NB310_313.out.symm _).trans (hHeld.2.2.2.2.2.2.2.2.2.2.1)))), ((cell_far (p := ⟨gb310, _, none⟩) NB310_313.out.symm _).trans (((cell_far (p := ⟨gb310, _, none⟩) NB310_313.out.symm _).trans (hHeld.2.2.2.2.2.2.2.2.2.2.2.1)))), ((cell_far (p := ⟨gb310, _, none⟩) NB310_313.out.symm _).trans (((cell_far (p := ⟨gb310, _, none⟩) NB310_313.out.symm _).trans (hHeld.2.2.2.2.2.2.2.2.2.2.2.2.1)))), ((cell_far (p := ⟨gb310, _, none⟩) NB310_313.out.symm _).trans (((cell_far (p := ⟨gb310, _, none⟩) NB310_313.out.symm _).trans (hHeld.2.2.2.2.2.2.2.2.2.2.2.2.2))))⟩ (fun hHeld => ?_)
       clear hK K
       refine pS 19 (some 9) rfl rfl (any_of HT_.out (by kernel_rfl)) (fun _ _ _ h => h) (by rfl) (fun w' => by go_simp; with_reducible rfl) (by simp only [Act.put, List.setIfInBounds_toArray, List.set_cons_zero, List.set_cons_succ, i64_w]; rfl) ?_
       refine done_ (done_of HT_.out (by kernel_rfl)) ?_
       try go_wp2
       all_goals (refine bodyPost_ret (results_ct rfl _ _ gb310 40 #[.int .i64 (wrap64 (Int.tdiv (wrap64 (1000 * t318)) (wrap64 ((wrap64 (20 * a1_5)) * ((rd_T71 l1_8 a2).f0))))), .int .i64 t320] (0, 0) _ rfl (bko gb310 (by rfl)) Tryd.underlying40 rfl (by kernel_rfl)) rfl ?_; exact ⟨by first | rfl | (simp [errW_none, errW_some] <;> rfl) | (simp [*, errW_none, errW_some] <;> rfl), bw w⟩)
     ·
      rw [if_neg c27] at H
      have c27b0 : (t316 == 0) = false := beq_eq_false_iff_ne.mpr c27
      have c27b1 : (t316 != 0) = true := bne_iff_ne.mpr c27
      simp only [Option.some.injEq, Prod.mk.injEq] at H
      obtain ⟨rfl, rfl, rfl⟩ := H
      go_enter Tryd.func44, Tryd.ntmps44
      go_wp2_with (first | ((with_reducible refine gate_dst (N := 4) rfl ?_); refine bxE 4 24 #[.int .i64 a0_0, .int .i64 a0_1, .slice A0_2 l0_2.length c0_2] (by rfl) (by rfl) (by first | (go_simp; done) | (go_simp; rfl)) ?_; intro gb308 hg w61 hbox hb; have BK308 := Bk.mk (hbox); have GE308 := eB w hg; replace HB := bS w hb; clear hb hbox hg) | ((with_reducible refine gate_dst (N := 5) rfl ?_); refine bxE 5 47 #[.int .i64 a1_0, .int .i64 a1_1, .int .i64 a1_2, .int .i64 a1_3, .int .i64 a1_4, .int .i64 a1_5, .int .i64 a1_6, .int .i64 a1_7, .slice A1_8 l1_8.length c1_8] (by rfl) (by rfl) (by first | (go_simp; done) | (go_simp; rfl)) ?_; intro gb309 hg w62 hbox hb; have BK309 := Bk.mk (hbox); have GE309 := eB w hg; have NB308_309 := nB gb308 hg; replace BK308 := kB gb308 hb; replace HB := bS w hb; clear hb hbox hg) | ((with_reducible refine gate_dst (N := 8) rfl ?_); refine bxE 8 40 #[.int .i64 0, .int .i64 0] (by rfl) (by rfl) (by first | (go_simp; done) | (go_simp; rfl)) ?_; intro gb310 hg w63 hbox hb; have BK310 := Bk.mk (hbox); have GE310 := eB w hg; have NB308_310 := nB gb308 hg; have NB309_310 := nB gb309 hg; replace BK308 := kB gb308 hb; replace BK309 := kB gb309 hb; replace HB := bS w hb; clear hb hbox hg; obtain ⟨hnb64, hnc64⟩ := nn NB308_309; obtain ⟨hnb65, hnc65⟩ := nn NB308_310; obtain ⟨hcz66_0, hcz66_1, hcz66_2, hfz66_0, hfz66_1, hfz66_2⟩ := cz3 BK308; obtain ⟨hnb67, hnc67⟩ := nn NB309_310; obtain ⟨hcz68_0, hcz68_1, hcz68_2, hcz68_3, hcz68_4, hcz68_5, hcz68_6, hcz68_7, hcz68_8, hfz68_0, hfz68_1, hfz68_2, hfz68_3, hfz68_4, hfz68_5, hfz68_6, hfz68_7, hfz68_8⟩ := cz9 BK309) | ((with_reducible refine gate_callee (f := 104) rfl ?_); refine goesLM (some 20) rfl rfl Tryd.func104 (by kernel_rfl) rfl #[.agg #[.int .i64 a0_0, .int .i64 a0_1, .slice A0_2 l0_2.length c0_2], .agg #[.int .i64 a1_0, .int .i64 a1_1, .int .i64 a1_2, .int .i64 a1_3, .int .i64 a1_4, .int .i64 a1_5, .int .i64 a1_6, .int .i64 a1_7, .slice A1_8 l1_8.length c1_8], .int .i64 a2, .int .i64 a3] rfl (by rfl) ?_; (with_reducible refine (course_stakeOf.calls k a0_0 a0_1 _ _ l0_2 a1_0 a1_1 a1_2 a1_3 a1_4 a1_5 a1_6 a1_7 _ _ l1_8 a2 a3 t311 _ ?side1 ?side2 ?side3 ?side4 A5.out).mono ?_); (case side1 => exact cP (Kd.C_below HR0_2.out HB.out)); (case side2 => exact HC0_2.out); (case side3 => exact cP (Kd.C_below HR1_8.out HB.out)); (case side4 => exact HC1_8.out); rintro e w69 ⟨rfl, hb⟩; refine ⟨_, rfl, ?_⟩; replace BK308 := kB gb308 hb; replace BK309 := kB gb309 hb; replace BK310 := kB gb310 hb; replace HB := bS w hb; (try clear hb); obtain ⟨hcz70_0, hcz70_1, hcz70_2, hcz70_3, hcz70_4, hcz70_5, hcz70_6, hcz70_7, hcz70_8, hfz70_0, hfz70_1, hfz70_2, hfz70_3, hfz70_4, hfz70_5, hfz70_6, hfz70_7, hfz70_8⟩ := cz9 BK309; have p312 : 0 ≤ (a2 : Int) := of_decide_eq_true (by first | (with_reducible assumption) | assumption); have q312 : a2 < (l1_8.length : Int) := of_decide_eq_true (by first | (with_reducible assumption) | assumption); obtain ⟨ad312, e312, hx312_0, hx312_1, hx312_2, hx312_3, hx312_4⟩ := at_T71 HR1_8.out a2 p312 q312; cases e312; replace hx312_0 := cB HB hx312_0; replace hx312_1 := cB HB hx312_1; replace hx312_2 := cB HB hx312_2; replace hx312_3 := cB HB hx312_3; replace hx312_4 := cB HB hx312_4; replace p312 := eq_true p312; replace q312 := eq_true q312) | ((with_reducible refine gate_dst (N := 11) rfl ?_); refine bxE 11 71 #[.int .i64 0, .int .i64 0, .int .i64 0, .int .i64 0, .int .i64 0] (by rfl) (by rfl) (by first | (go_simp; done) | (go_simp; rfl)) ?_; intro gb313 hg w71 hbox hb; have BK313 := Bk.mk (hbox); have GE313 := eB w hg; have NB308_313 := nB gb308 hg; have NB309_313 := nB gb309 hg; have NB310_313 := nB gb310 hg; replace BK308 := kB gb308 hb; replace BK309 := kB gb309 hb; replace BK310 := kB gb310 hb; replace HB := bS w hb; clear hb hbox hg; obtain ⟨hnc72, hnb72⟩ := nn NB308_313; obtain ⟨hnc73, hnb73⟩ := nn NB309_313; obtain ⟨hnc74, hnb74⟩ := nn NB310_313; obtain ⟨hcz75_0, hcz75_1, hcz75_2, hcz75_3, hcz75_4, hfz75_0, hfz75_1, hfz75_2, hfz75_3, hfz75_4⟩ := cz5 BK313; obtain ⟨hcz76_0, hcz76_1, hcz76_2, hfz76_0, hfz76_1, hfz76_2⟩ := cz3 BK308; obtain ⟨hcz77_0, hcz77_1, hcz77_2, hcz77_3, hcz77_4, hcz77_5, hcz77_6, hcz77_7, hcz77_8, hfz77_0, hfz77_1, hfz77_2, hfz77_3, hfz77_4, hfz77_5, hfz77_6, hfz77_7, hfz77_8⟩ := cz9 BK309) | ((with_reducible refine gate_callee (f := 105) rfl ?_); refine goesLM (some 38) rfl rfl Tryd.func105 (by kernel_rfl) rfl #[.agg #[.int .i64 a0_0, .int .i64 a0_1, .slice A0_2 l0_2.length c0_2], .agg #[.int .i64 a1_0, .int .i64 a1_1, .int .i64 a1_2, .int .i64 a1_3, .int .i64 a1_4, .int .i64 a1_5, .int .i64 a1_6, .int .i64 a1_7, .slice (some ad312) l1_8.length c1_8], .int .i64 a3] rfl (by rfl) ?_; (with_reducible refine (course_turns.calls k a0_0 a0_1 _ _ l0_2 a1_0 a1_1 a1_2 a1_3 a1_4 a1_5 a1_6 a1_7 _ _ l1_8 a3 t314 t315 t316 _ ?side1 ?side2 ?side3 ?side4 A26.out).mono ?_); (case side1 => exact Kd.C_below HR0_2.out (bw w)); (case side2 => exact HC0_2.out); (case side3 => exact Kd.C_below HR1_8.out (bw w)); (case side4 => exact HC1_8.out); rintro e w78 ⟨rfl, hb⟩; refine ⟨_, rfl, ?_⟩; replace BK308 := kB gb308 hb; replace BK309 := kB gb309 hb; replace BK310 := kB gb310 hb; replace BK313 := kBo gb313 (.cells #[.int .i64 ((rd_T71 l1_8 a2).f0), .int .i64 ((rd_T71 l1_8 a2).f1), .int .i64 ((rd_T71 l1_8 a2).f2), .int .i64 ((rd_T71 l1_8 a2).f3), .int .i64 ((rd_T71 l1_8 a2).f4)] 71 (0, 0)) hb (by rfl); replace HB := bS w hb; (try clear hb)) | ((with_reducible refine gate_dst (N := 12) rfl ?_); refine bxE 12 103 #[.int .i64 0, .int .i64 0] (by rfl) (by rfl) (by first | (go_simp; done) | (go_simp; rfl)) ?_; intro gb317 hg w79 hbox hb; have BK317 := Bk.mk (hbox); have GE317 := eB w hg; have NB308_317 := nB gb308 hg; have NB309_317 := nB gb309 hg; have NB310_317 := nB gb310 hg; have NB313_317 := nB gb313 hg; replace BK308 := kB gb308 hb; replace BK309 := kB gb309 hb; replace BK310 := kB gb310 hb; replace BK313 := kB gb313 hb; replace HB := bS w hb; clear hb hbox hg; obtain ⟨hnc80, hnb80⟩ := nn NB308_317; obtain ⟨hnc81, hnb81⟩ := nn NB309_317; obtain ⟨hnc82, hnb82⟩ := nn NB310_317; obtain ⟨hnc83, hnb83⟩ := nn NB313_317; obtain ⟨hcz84_0, hcz84_1, hfz84_0, hfz84_1⟩ := cz2 BK317; obtain ⟨hcz85_0, hcz85_1, hfz85_0, hfz85_1⟩ := cz2 BK310))
      all_goals (refine bodyPost_ret (results_ct rfl _ _ gb310 40 #[.int .i64 0, .int .i64 0] (0, 0) _ rfl (bko gb310 (by rfl)) Tryd.underlying40 rfl (by kernel_rfl)) rfl ?_; exact ⟨by first | rfl | (simp [errW_none, errW_some] <;> rfl) | (simp [*, errW_none, errW_some] <;> rfl), bw w⟩)
   ·
    rw [if_neg c8] at H
    exact absurd H (by simp)
  ·
   rw [if_neg c7] at H
   exact absurd H (by simp)
 ·
  rw [if_neg c6] at H
  have c6b0 : (t311 == 0) = false := beq_eq_false_iff_ne.mpr c6
  have c6b1 : (t311 != 0) = true := bne_iff_ne.mpr c6
  simp only [Option.some.injEq, Prod.mk.injEq] at H
  obtain ⟨rfl, rfl, rfl⟩ := H
  go_enter Tryd.func44, Tryd.ntmps44
  go_wp2_with (first | ((with_reducible refine gate_dst (N := 4) rfl ?_); refine bxE 4 24 #[.int .i64 a0_0, .int .i64 a0_1, .slice A0_2 l0_2.length c0_2] (by rfl) (by rfl) (by first | (go_simp; done) | (go_simp; rfl)) ?_; intro gb308 hg w86 hbox hb; have BK308 := Bk.mk (hbox); have GE308 := eB w hg; replace HB := bS w hb; clear hb hbox hg) | ((with_reducible refine gate_dst (N := 5) rfl ?_); refine bxE 5 47 #[.int .i64 a1_0, .int .i64 a1_1, .int .i64 a1_2, .int .i64 a1_3, .int .i64 a1_4, .int .i64 a1_5, .int .i64 a1_6, .int .i64 a1_7, .slice A1_8 l1_8.length c1_8] (by rfl) (by rfl) (by first | (go_simp; done) | (go_simp; rfl)) ?_; intro gb309 hg w87 hbox hb; have BK309 := Bk.mk (hbox); have GE309 := eB w hg; have NB308_309 := nB gb308 hg; replace BK308 := kB gb308 hb; replace HB := bS w hb; clear hb hbox hg) | ((with_reducible refine gate_dst (N := 8) rfl ?_); refine bxE 8 40 #[.int .i64 0, .int .i64 0] (by rfl) (by rfl) (by first | (go_simp; done) | (go_simp; rfl)) ?_; intro gb310 hg w88 hbox hb; have BK310 := Bk.mk (hbox); have GE310 := eB w hg; have NB308_310 := nB gb308 hg; have NB309_310 := nB gb309 hg; replace BK308 := kB gb308 hb; replace BK309 := kB gb309 hb; replace HB := bS w hb; clear hb hbox hg; obtain ⟨hnb89, hnc89⟩ := nn NB308_309; obtain ⟨hnb90, hnc90⟩ := nn NB308_310; obtain ⟨hcz91_0, hcz91_1, hcz91_2, hfz91_0, hfz91_1, hfz91_2⟩ := cz3 BK308; obtain ⟨hnb92, hnc92⟩ := nn NB309_310; obtain ⟨hcz93_0, hcz93_1, hcz93_2, hcz93_3, hcz93_4, hcz93_5, hcz93_6, hcz93_7, hcz93_8, hfz93_0, hfz93_1, hfz93_2, hfz93_3, hfz93_4, hfz93_5, hfz93_6, hfz93_7, hfz93_8⟩ := cz9 BK309) | ((with_reducible refine gate_callee (f := 104) rfl ?_); refine goesLM (some 20) rfl rfl Tryd.func104 (by kernel_rfl) rfl #[.agg #[.int .i64 a0_0, .int .i64 a0_1, .slice A0_2 l0_2.length c0_2], .agg #[.int .i64 a1_0, .int .i64 a1_1, .int .i64 a1_2, .int .i64 a1_3, .int .i64 a1_4, .int .i64 a1_5, .int .i64 a1_6, .int .i64 a1_7, .slice A1_8 l1_8.length c1_8], .int .i64 a2, .int .i64 a3] rfl (by rfl) ?_; (with_reducible refine (course_stakeOf.calls k a0_0 a0_1 _ _ l0_2 a1_0 a1_1 a1_2 a1_3 a1_4 a1_5 a1_6 a1_7 _ _ l1_8 a2 a3 t311 _ ?side1 ?side2 ?side3 ?side4 A5.out).mono ?_); (case side1 => exact cP (Kd.C_below HR0_2.out HB.out)); (case side2 => exact HC0_2.out); (case side3 => exact cP (Kd.C_below HR1_8.out HB.out)); (case side4 => exact HC1_8.out); rintro e w94 ⟨rfl, hb⟩; refine ⟨_, rfl, ?_⟩; replace BK308 := kB gb308 hb; replace BK309 := kB gb309 hb; replace BK310 := kB gb310 hb; replace HB := bS w hb; (try clear hb); obtain ⟨hcz95_0, hcz95_1, hfz95_0, hfz95_1⟩ := cz2 BK310))
  all_goals (refine bodyPost_ret (results_ct rfl _ _ gb310 40 #[.int .i64 0, .int .i64 0] (0, 0) _ rfl (bko gb310 (by rfl)) Tryd.underlying40 rfl (by kernel_rfl)) rfl ?_; exact ⟨by first | rfl | (simp [errW_none, errW_some] <;> rfl) | (simp [*, errW_none, errW_some] <;> rfl), bw w⟩)
def snowlinelaw01_example.f  : Option (Int × Int × (List (S26))) := some (0, 0, (([(⟨10, 10, 0, 0⟩ : S26)] : List (S26))))
set_option maxHeartbeats 8000000 in
set_option maxRecDepth 100000 in
theorem snowlinelaw01_example.calls  (r1 : Int) (r2 : Int) (r3 : List (S26)) (w : World) (h : snowlinelaw01_example.f  = some (r1, r2, r3)) :
  Calls Tryd.prog 66 #[] w fun e w' => ∃ v2_ : Value, e = .returned (.agg #[.int .i64 r1, .int .i64 r2, v2_]) ∧ Kd.R k26 26 w' w.heap.size (fun _ => True) v2_ r3 ∧ Below w.heap.size w w' := by
 have hu24 := Tryd.underlying24
 have hu26 := Tryd.underlying26
 have HB := Bw.mk (Below.refl w.heap.size w)
 have H : (some (0, 0, (([(⟨10, 10, 0, 0⟩ : S26)] : List (S26))))) = some (r1, r2, r3) := h
 clear h
 obtain ⟨y322, hy322⟩ : ∃ y_ : List (S26), y_ = (([(⟨10, 10, 0, 0⟩ : S26)] : List (S26))) := ⟨_, rfl⟩
 replace H : (some (0, 0, y322)) = some (r1, r2, r3) := by first | (rw [hy322]; with_reducible exact H) | (have H2_ := (Option.bind_some _ _).symm.trans H; rw [hy322]; with_reducible exact H2_) | (have H2_ := (Option.bind_some _ _).symm.trans H; with_reducible exact H2_) | with_reducible exact H | (rw [hy322]; exact H) | exact H
 have Ny322 := Aside0.mk (hy322)
 clear hy322
 simp only [Option.some.injEq, Prod.mk.injEq] at H
 obtain ⟨rfl, rfl, rfl⟩ := H
 go_enter Tryd.func66, Tryd.ntmps66
 go_wp2_with (first | ((with_reducible refine gate_dst (N := 0) rfl ?_); refine bxE 0 24 #[.int .i64 0, .int .i64 0, .slice none 0 0] (by rfl) (by rfl) (by first | (go_simp; done) | (go_simp; rfl)) ?_; intro gb321 hg w1 hbox hb; have BK321 := Bk.mk (hbox); have GE321 := eB w hg; replace HB := bS w hb; clear hb hbox hg) | ((with_reducible refine gate_dst (N := 2) rfl ?_); refine Kd.R_lit k26 _ 26 ?hg (N := 2) ?hd (xs := ([(⟨10, 10, 0, 0⟩ : S26)] : List (S26))) (inner := [.int .i64 10, .int .i64 10, .int .i64 0, .int .i64 0]) (ok := fun _ => True) (okp := fun _ => True) ?hr ?hp (fun _ hk => hk) trivial (Below.refl _ _) (Nat.le_refl _) (by simp) ?_; (case hd => rfl); (case hg => rfl); (case hr => first | (go_simp; done) | (go_simp; rfl)); (case hp => exact (Reps.c4 (show Kd.M k26 _ _ _ (⟨10, 10, 0, 0⟩ : S26) [.int .i64 10, .int .i64 10, .int .i64 0, .int .i64 0] from (k26_mkM _ _ _ (⟨10, 10, 0, 0⟩ : S26) )) (Reps.none _ _))); intro v323 w2 ho3 hb hg_ hnew_; clear hg_ hnew_; (first | rw [← Ny322.out] at ho3 | (simp only [Int.reduceToNat] at ho3; rw [← Ny322.out] at ho3)); have n0_ := Aside0.mk (Kd.R_lower ho3 (bz w)); replace BK321 := kB gb321 hb; replace HB := bS w hb; have HO324 := n0_; clear n0_ hb ho3; obtain ⟨Ao4, co4, eo4⟩ := Kd.R_slice HO324.out; subst eo4; obtain ⟨hcz5_0, hcz5_1, hcz5_2, hfz5_0, hfz5_1, hfz5_2⟩ := cz3 BK321))
 all_goals (refine bodyPost_ret (results_cell_row rfl _ _ gb321 24 #[.int .i64 0, .int .i64 0, .slice Ao4 y322.length co4] (0, 0) _ rfl (bko gb321 (by rfl)) Tryd.underlying24 rfl (by kernel_rfl)) rfl ?_; exact ⟨_, by first | rfl | (simp [errW_none, errW_some] <;> rfl) | (simp [*, errW_none, errW_some] <;> rfl), by (with_reducible repeat (first | apply Kd.R_alloc | apply Kd.R_drewN | apply Kd.R_drew)); exact Kd.R_mono (Kd.R_far (p := ⟨gb321, 2, none⟩) (Kd.R_far (p := ⟨gb321, 1, none⟩) (Kd.R_far (p := ⟨gb321, 0, none⟩) (Kd.R_types HO324.out BK321.out (by decide)) (fun _ hk => hk.2) (.int .i64 0)) (fun _ hk => hk.2) (.int .i64 0)) (fun _ hk => hk.2) (.slice Ao4 y322.length co4)) (fun _ hk => trivial), bw w⟩)
def snowlinelaw01_sheet.f  : Option (Int × Int × Int × Int × Int × Int × Int × Int × (List (S71))) := some (1, 2, 10, 11, 0, 10, 100, 10, (([(⟨300, 200, 1155, 40, 5⟩ : S71)] : List (S71))))
set_option maxHeartbeats 8000000 in
set_option maxRecDepth 100000 in
theorem snowlinelaw01_sheet.calls  (r1 : Int) (r2 : Int) (r3 : Int) (r4 : Int) (r5 : Int) (r6 : Int) (r7 : Int) (r8 : Int) (r9 : List (S71)) (w : World) (h : snowlinelaw01_sheet.f  = some (r1, r2, r3, r4, r5, r6, r7, r8, r9)) :
  Calls Tryd.prog 67 #[] w fun e w' => ∃ v8_ : Value, e = .returned (.agg #[.int .i64 r1, .int .i64 r2, .int .i64 r3, .int .i64 r4, .int .i64 r5, .int .i64 r6, .int .i64 r7, .int .i64 r8, v8_]) ∧ Kd.R k71 71 w' w.heap.size (fun _ => True) v8_ r9 ∧ Below w.heap.size w w' := by
 have hu47 := Tryd.underlying47
 have hu71 := Tryd.underlying71
 have HB := Bw.mk (Below.refl w.heap.size w)
 have H : (some (1, 2, 10, 11, 0, 10, 100, 10, (([(⟨300, 200, 1155, 40, 5⟩ : S71)] : List (S71))))) = some (r1, r2, r3, r4, r5, r6, r7, r8, r9) := h
 clear h
 obtain ⟨y326, hy326⟩ : ∃ y_ : List (S71), y_ = (([(⟨300, 200, 1155, 40, 5⟩ : S71)] : List (S71))) := ⟨_, rfl⟩
 replace H : (some (1, 2, 10, 11, 0, 10, 100, 10, y326)) = some (r1, r2, r3, r4, r5, r6, r7, r8, r9) := by first | (rw [hy326]; with_reducible exact H) | (have H2_ := (Option.bind_some _ _).symm.trans H; rw [hy326]; with_reducible exact H2_) | (have H2_ := (Option.bind_some _ _).symm.trans H; with_reducible exact H2_) | with_reducible exact H | (rw [hy326]; exact H) | exact H
 have Ny326 := Aside0.mk (hy326)
 clear hy326
 simp only [Option.some.injEq, Prod.mk.injEq] at H
 obtain ⟨rfl, rfl, rfl, rfl, rfl, rfl, rfl, rfl, rfl⟩ := H
 go_enter Tryd.func67, Tryd.ntmps67
 go_wp2_with (first | ((with_reducible refine gate_dst (N := 0) rfl ?_); refine bxE 0 47 #[.int .i64 0, .int .i64 0, .int .i64 0, .int .i64 0, .int .i64 0, .int .i64 0, .int .i64 0, .int .i64 0, .slice none 0 0] (by rfl) (by rfl) (by first | (go_simp; done) | (go_simp; rfl)) ?_; intro gb325 hg w1 hbox hb; have BK325 := Bk.mk (hbox); have GE325 := eB w hg; replace HB := bS w hb; clear hb hbox hg) | ((with_reducible refine gate_dst (N := 2) rfl ?_); refine Kd.R_lit k71 _ 71 ?hg (N := 2) ?hd (xs := ([(⟨300, 200, 1155, 40, 5⟩ : S71)] : List (S71))) (inner := [.int .i64 300, .int .i64 200, .int .i64 1155, .int .i64 40, .int .i64 5]) (ok := fun _ => True) (okp := fun _ => True) ?hr ?hp (fun _ hk => hk) trivial (Below.refl _ _) (Nat.le_refl _) (by simp) ?_; (case hd => rfl); (case hg => rfl); (case hr => first | (go_simp; done) | (go_simp; rfl)); (case hp => exact (Reps.c5 (show Kd.M k71 _ _ _ (⟨300, 200, 1155, 40, 5⟩ : S71) [.int .i64 300, .int .i64 200, .int .i64 1155, .int .i64 40, .int .i64 5] from (k71_mkM _ _ _ (⟨300, 200, 1155, 40, 5⟩ : S71) )) (Reps.none _ _))); intro v327 w2 ho3 hb hg_ hnew_; clear hg_ hnew_; (first | rw [← Ny326.out] at ho3 | (simp only [Int.reduceToNat] at ho3; rw [← Ny326.out] at ho3)); have n0_ := Aside0.mk (Kd.R_lower ho3 (bz w)); replace BK325 := kB gb325 hb; replace HB := bS w hb; have HO328 := n0_; clear n0_ hb ho3; obtain ⟨Ao4, co4, eo4⟩ := Kd.R_slice HO328.out; subst eo4; obtain ⟨hcz5_0, hcz5_1, hcz5_2, hcz5_3, hcz5_4, hcz5_5, hcz5_6, hcz5_7, hcz5_8, hfz5_0, hfz5_1, hfz5_2, hfz5_3, hfz5_4, hfz5_5, hfz5_6, hfz5_7, hfz5_8⟩ := cz9 BK325))
 all_goals (refine bodyPost_ret (results_cell_row rfl _ _ gb325 47 #[.int .i64 1, .int .i64 2, .int .i64 10, .int .i64 11, .int .i64 0, .int .i64 10, .int .i64 100, .int .i64 10, .slice Ao4 y326.length co4] (0, 0) _ rfl (bko gb325 (by rfl)) Tryd.underlying47 rfl (by kernel_rfl)) rfl ?_; exact ⟨_, by first | rfl | (simp [errW_none, errW_some] <;> rfl) | (simp [*, errW_none, errW_some] <;> rfl), by (with_reducible repeat (first | apply Kd.R_alloc | apply Kd.R_drewN | apply Kd.R_drew)); exact Kd.R_mono (Kd.R_far (p := ⟨gb325, 8, none⟩) (Kd.R_far (p := ⟨gb325, 7, none⟩) (Kd.R_far (p := ⟨gb325, 6, none⟩) (Kd.R_far (p := ⟨gb325, 5, none⟩) (Kd.R_far (p := ⟨gb325, 4, none⟩) (Kd.R_far (p := ⟨gb325, 3, none⟩) (Kd.R_far (p := ⟨gb325, 2, none⟩) (Kd.R_far (p := ⟨gb325, 1, none⟩) (Kd.R_far (p := ⟨gb325, 0, none⟩) (Kd.R_types HO328.out BK325.out (by decide)) (fun _ hk => hk.2) (.int .i64 1)) (fun _ hk => hk.2) (.int .i64 2)) (fun _ hk => hk.2) (.int .i64 10)) (fun _ hk => hk.2) (.int .i64 11)) (fun _ hk => hk.2) (.int .i64 0)) (fun _ hk => hk.2) (.int .i64 10)) (fun _ hk => hk.2) (.int .i64 100)) (fun _ hk => hk.2) (.int .i64 10)) (fun _ hk => hk.2) (.slice Ao4 y326.length co4)) (fun _ hk => trivial), bw w⟩)
end Go.Proofs.YtapijkdgkajoeaaDoor.PF
end
section
namespace Go.Proofs.YtapijkdgkajoeaaDoor.PF
open Go.RowKit Go.Proofs.YtapijkdgkajoeaaDoorW.PrintWords Go.Proofs.YtapijkdgkajoeaaDoorW.PrintLast Go.Proofs.YtapijkdgkajoeaaDoorW.PrintMore
open Go.Shelf
set_option linter.unusedVariables false
theorem sizeB : (Tryd.prog.info? 142).map (·.size) = some 2 := by kernel_rfl
theorem liesB : liesAt Tryd.prog Tryd.prog.depth 144 (2 / Tryd.prog.cellsOf 144) 0 142 1 = true := by kernel_rfl
theorem infoU : (Tryd.prog.info? 5).map (fun i => (i.zero, i.size, i.bytes)) = some (some (.int .u8 0), 1, 1) := by kernel_rfl
theorem cellsU : Tryd.prog.cellsOf 5 = 1 := by kernel_rfl
def KeptT (b : Nat) (w w' : World) : Prop := ∀ k cs T fr, w.heap[k]? = some (.cells cs T fr) → T ≠ 5 → k ≠ b → w'.heap[k]? = some (.cells cs T fr)
theorem KeptT.refl (b : Nat) (w : World) : KeptT b w w := fun _ _ _ _ h _ _ => h
theorem KeptT.trans {b : Nat} {w w1 w2 : World} (h : KeptT b w w1) (h' : KeptT b w1 w2) : KeptT b w w2 := fun k cs T fr e t n => h' k cs T fr (h k cs T fr e t n) t n
theorem KeptT.below {b : Nat} {w w' : World} (h : Below w.heap.size w w') : KeptT b w w' := fun _ _ _ _ e _ _ => blk_below e h
theorem KeptT.set {b : Nat} {w w1 : World} (h : KeptT b w w1) (j : Nat) (u : Value) : KeptT b w (w1.setCell ⟨b, j, none⟩ u) := fun k cs T fr e t n => by
  rw [Below.heap_setCell _ _ _ _ n]
  exact h k cs T fr e t n
theorem builder_below {B b : Nat} {p : Value} {bs : List Value} {w w' : World} (h : Lib.BuilderAt 144 5 B b p bs w) (hb : Below w.heap.size w w') : Lib.BuilderAt 144 5 B b p bs w' := by
  obtain ⟨hB, v, hbk, hown, hne⟩ := h
  refine ⟨hB, v, blk_below hbk hb, own_move hown (fun k hk => ?_), hne⟩
  obtain ⟨cells, hc⟩ := own_typed hown k hk
  rw [hc]
  exact blk_below hc hb
theorem isBuilder_below {B b : Nat} {bs : List Value} {w w' : World} (h : Lib.IsBuilder 144 5 B b bs w) (hb : Below w.heap.size w w') : Lib.IsBuilder 144 5 B b bs w' := h.imp (fun h => builder_below h hb) (fun h => builder_below h hb)
set_option maxHeartbeats 1000000 in
set_option maxRecDepth 100000 in
theorem copyCheck_used (b : Nat) (w : World) (h0 : w.cell? ⟨b, 0, none⟩ = some (.pointer (some ⟨b, 0, none⟩))) :
    Calls Tryd.prog 137 #[.pointer (some ⟨b, 0, none⟩)] w fun e w' => e = .returned (.tuple #[]) ∧ w' = w := by
  obtain ⟨j, hj, _⟩ := Option.map_eq_some_iff.1 sizeB
  have t142 := Tryd.underlying142
  have t139 := Tryd.underlying139
  go_enter Tryd.func137, Tryd.ntmps137
  go_wp2
  rw [Lib.run_neq_ptr_same w _ Tryd.underlying139 hj]
  go_wp2
  go_end0
  exact ⟨rfl, rfl⟩
set_option maxHeartbeats 1000000 in
set_option maxRecDepth 100000 in
theorem copyCheck_fresh (b : Nat) (w : World) (h0 : w.cell? ⟨b, 0, none⟩ = some (.pointer none)) (hsh : w.shape? b = some (144, 2)) (hfz : w.frozen? ⟨b, 0, none⟩ = false) :
    Calls Tryd.prog 137 #[.pointer (some ⟨b, 0, none⟩)] w fun e w' => e = .returned (.tuple #[]) ∧ w' = w.setCell ⟨b, 0, none⟩ (.pointer (some ⟨b, 0, none⟩)) := by
  obtain ⟨j, hj, hjs⟩ := Option.map_eq_some_iff.1 sizeB
  have t142 := Tryd.underlying142
  have t139 := Tryd.underlying139
  have t161 := Tryd.underlying161
  go_enter Tryd.func137, Tryd.ntmps137
  go_wp2
  rw [Lib.run_to_unsafe w ⟨b, 0, none⟩ Tryd.underlying139 Tryd.underlying161 hj (by rw [hjs]; decide) hsh (Nat.zero_lt_succ 1)]
  simp only [Result.andThen]
  rw [Oper.upon_value]
  go_wp2
  rw [run_callFunc_extern Tryd.func140 (by kernel_rfl) (by kernel_rfl) (by kernel_rfl) (e := Extern.AbiNoEscape.same) (by kernel_rfl)]
  rw [Lib.run_noEscape]
  simp only [Result.andThen]
  rw [Oper.upon_value]
  go_wp2
  rw [Lib.run_from_unsafe w ⟨b, 0, none⟩ Tryd.underlying161 Tryd.underlying139 hj hsh liesB]
  simp only [Result.andThen]
  rw [Oper.upon_value]
  go_wp2
  go_end0
  exact ⟨rfl, rfl⟩
theorem copyCheck_calls (B b : Nat) (bs : List Value) (w : World) (h : Lib.IsBuilder 144 5 B b bs w) :
    Calls Tryd.prog 137 #[.pointer (some ⟨b, 0, none⟩)] w fun e w' => e = .returned (.tuple #[]) ∧ (Lib.BuilderAt 144 5 B b (.pointer (some ⟨b, 0, none⟩)) bs w' ∧ Below B w w' ∧ KeptT b w w') := by
  rcases h with h | h
  · refine (copyCheck_fresh b w h.cell0 h.shape h.frozen0).mono ?_
    rintro e w' ⟨rfl, rfl⟩
    exact ⟨rfl, h.used _, (Below.refl B w).setCell (p := ⟨b, 0, none⟩) h.1 _, (KeptT.refl b w).set 0 _⟩
  · refine (copyCheck_used b w h.cell0).mono ?_
    rintro e w' ⟨rfl, rfl⟩
    exact ⟨rfl, h, Below.refl B _, KeptT.refl b _⟩
set_option maxHeartbeats 2000000 in
set_option maxRecDepth 100000 in
theorem WriteString_calls (B b : Nat) (bs : List Value) (s : ByteArray) (w : World) (h : Lib.IsBuilder 144 5 B b bs w) (hlen : bs.length + s.size ≤ 140737488355328) (hBw : B ≤ w.heap.size) :
    Calls Tryd.prog 125 #[.pointer (some ⟨b, 0, none⟩), .string s] w fun e w' => e = .returned (.tuple #[.int .i64 s.size, .nilIface]) ∧ (Lib.BuilderAt 144 5 B b (.pointer (some ⟨b, 0, none⟩)) (bs ++ Lib.strCells s) w' ∧ Below B w w' ∧ KeptT b w w') := by
  obtain ⟨i0, hi, hz0, hz1, hz2⟩ := info_parts infoU
  have t142 := Tryd.underlying142
  have t139 := Tryd.underlying139
  have t140 := Tryd.underlying140
  go_enter Tryd.func125, Tryd.ntmps125
  go_wp2_with (go_at_call 137; refine (copyCheck_calls B b bs _ h).mono ?_)
  rintro e w1 ⟨rfl, h1, hb1, hk1⟩
  obtain ⟨hB, v, hbk, hown, hne⟩ := h1
  have c0 : w1.cell? ⟨b, 0, none⟩ = some (.pointer (some ⟨b, 0, none⟩)) := by rw [Lib.cell_of_heap hbk]; rfl
  have c1 : w1.cell? ⟨b, 1, none⟩ = some v := by rw [Lib.cell_of_heap hbk]; rfl
  go_wp2_with (at_builtin; refine Lib.wpList_append_own_string _ rfl _ _ 140 9 rfl B 5 i0 Tryd.underlying140 Tryd.underlying9 hi hz0 hz1 hz2 _ _ _ rfl hown s rfl ?c3 ?c4 ?c5 ?_)
  case c3 => unfold maxLen; omega
  case c4 => omega
  case c5 => have := hb1.size; omega
  intro v' w2 hown' hgrow _
  have hlt : b < w1.heap.size := by
    rcases Nat.lt_or_ge b w1.heap.size with h' | h'
    · exact h'
    · simp [Array.getElem?_eq_none h'] at hbk
  have hb2 : w2.heap[b]? = some (.cells #[.pointer (some ⟨b, 0, none⟩), v] 144 (0, 0)) := by
    rw [hgrow.block b hlt (fun e => hne e.symm)]
    exact hbk
  have d0 : w2.cell? ⟨b, 0, none⟩ = some (.pointer (some ⟨b, 0, none⟩)) := by rw [Lib.cell_of_heap hb2]; rfl
  have d1 : w2.cell? ⟨b, 1, none⟩ = some v := by rw [Lib.cell_of_heap hb2]; rfl
  have f1 : w2.frozen? ⟨b, 1, none⟩ = false := Lib.frozen_of_heap hb2 1
  have k2 : KeptT b w1 w2 := fun k cs T fr e t n => by
    rw [hgrow.block k (blk_lt e) (fun e' => ?_)]
    · exact e
    · obtain ⟨cells, hc⟩ := own_typed hown k e'.symm
      rw [hc] at e
      simp only [Option.some.injEq, Obj.cells.injEq] at e
      exact t e.2.1.symm
  obtain ⟨ao, n', cap, rfl⟩ : ∃ ao n' cap, v' = .slice ao n' cap := by
    rcases hown'.2 with ⟨hv, _⟩ | ⟨g, cap, cur, hv, _⟩
    · exact ⟨_, _, _, hv⟩
    · exact ⟨_, _, _, hv⟩
  go_wp2
  go_ret2
  refine ⟨rfl, ?_, ?_, ?_⟩
  · exact Lib.BuilderAt.put (T := 144) (e := 5) hB hb2 (bs' := bs ++ Lib.strCells s) (by simpa [Lib.strCells_length] using hown') (by decide)
  · exact (hb1.grown hgrow (by have := hb1.size; omega) (fun k hk => (hown.lt k hk).1)).setCell (p := ⟨b, 1, none⟩) hB _
  · exact (hk1.trans k2).set 1 _
set_option maxHeartbeats 1000000 in
set_option maxRecDepth 100000 in
theorem String_calls (B b : Nat) (l : List UInt8) (w : World) (h : Lib.IsBuilder 144 5 B b (Lib.byteCells l) w) (h0 : l ≠ []) :
    Calls Tryd.prog 127 #[.pointer (some ⟨b, 0, none⟩)] w fun e w' => e = .returned (.string ⟨l.toArray⟩) ∧ Below B w w' := by
  obtain ⟨p, hB, v, hbk, hown, hne⟩ : ∃ p, Lib.BuilderAt 144 5 B b p (Lib.byteCells l) w := by
    rcases h with h | h
    · exact ⟨_, h⟩
    · exact ⟨_, h⟩
  have hl0 : l.length ≠ 0 := by simpa using h0
  rw [Lib.byteCells_length] at hown
  obtain ⟨g, cap, cur, rfl, hbg, hg, hnc, hcm, hcs, htake⟩ : ∃ g cap cur, v = .slice (some ⟨g, 0, none⟩) l.length cap ∧ B ≤ g ∧ w.heap[g]? = some (.cells cur 5 (0, 0)) ∧ l.length ≤ cap ∧ cap ≤ maxLen ∧ cur.size = cap * 1 ∧ cur.toList.take (l.length * 1) = Lib.byteCells l := by
    rcases hown.2 with ⟨_, hz⟩ | ⟨g, cap, cur, hv, r⟩
    · exact absurd hz hl0
    · exact ⟨g, cap, cur, hv, r⟩
  have c1 : w.drew.cell? ⟨b, 1, none⟩ = some (.slice (some ⟨g, 0, none⟩) l.length cap) := by
    have : w.drew.heap[b]? = some (.cells #[p, .slice (some ⟨g, 0, none⟩) l.length cap] 144 (0, 0)) := hbk
    rw [Lib.cell_of_heap this]; rfl
  have hSD : (Builtin.unsafeSliceData_ #[140] 159 #[.slice (some ⟨g, 0, none⟩) l.length cap]).run Tryd.prog w.drew = .ok (.pointer (some ⟨g, 0, none⟩)) w.drew :=
    Lib.run_unsafeSliceData_row _ _ _ _ _ _ (by omega)
  have hUS : (Builtin.unsafeString_ #[159, 3] 9 #[.pointer (some ⟨g, 0, none⟩), .int .i64 l.length]).run Tryd.prog w.drew = .ok (.string ⟨l.toArray⟩) (w.drew.freeze ⟨g, 0, none⟩ l.length) := by
    refine Lib.run_unsafeString_row w.drew 159 3 9 5 Tryd.underlying159 cellsU g cur.size (by have hg' : w.drew.heap[g]? = some (.cells cur 5 (0, 0)) := hg; simp [World.shape?, hg']) l h0 (by omega) (by unfold maxLen at hcm; omega) ?_
    intro j x hx
    have := hown.cells (g := g) rfl j (.int .u8 x.toNat) (by simp [Lib.byteCells, hx])
    exact this
  have t142 := Tryd.underlying142
  have t139 := Tryd.underlying139
  have t140 := Tryd.underlying140
  have t159 := Tryd.underlying159
  have mixed : Tryd.prog.follows Departure.mixedOrders = true := by kernel_rfl
  go_enter Tryd.func127, Tryd.ntmps127
  go_wp2
  go_region_o
  all_goals (go_wp2; go_ret; exact ⟨rfl, Lib.below_freeze (Below.drew (Below.refl B w)) (p := ⟨g, 0, none⟩) hbg _⟩)
end Go.Proofs.YtapijkdgkajoeaaDoor.PF
end
section
namespace Go.Proofs
open Go.Shelf
def Tryd.laysM171_ren : Go.Shelf.Ren := ⟨fun | 171 => 138 | 243 => 141 | 246 => 142 | 283 => 143 | 284 => 144 | 285 => 145 | 286 => 146 | 129 => 148 | 317 => 147 | 318 => 149 | 319 => 150 | 320 => 151 | 337 => 152 | 338 => 153 | n => n, fun | 3 => 3 | 9 => 9 | 2 => 2 | 4 => 4 | 171 => 164 | 0 => 0 | 53 => 165 | 37 => 140 | 5 => 5 | 173 => 168 | 212 => 172 | 51 => 173 | 20 => 20 | 213 => 174 | 46 => 137 | 232 => 177 | 233 => 178 | n => n, fun | 17 => 0 | 18 => 1 | 19 => 2 | n => n⟩
theorem Tryd.laysM171 : Go.Proofs.LaysM.n171 Tryd.prog Tryd.laysM171_ren := {
  mixed := by kernel_rfl
  f129 := Tryd.func148.trans (congrArg some (by kernel_rfl))
  f171 := Tryd.func138.trans (congrArg some (by kernel_rfl))
  f243 := Tryd.func141.trans (congrArg some (by kernel_rfl))
  f246 := Tryd.func142.trans (congrArg some (by kernel_rfl))
  f283 := Tryd.func143.trans (congrArg some (by kernel_rfl))
  f284 := Tryd.func144.trans (congrArg some (by kernel_rfl))
  f285 := Tryd.func145.trans (congrArg some (by kernel_rfl))
  f286 := Tryd.func146.trans (congrArg some (by kernel_rfl))
  f317 := Tryd.func147.trans (congrArg some (by kernel_rfl))
  f318 := Tryd.func149.trans (congrArg some (by kernel_rfl))
  f319 := Tryd.func150.trans (congrArg some (by kernel_rfl))
  f320 := Tryd.func151.trans (congrArg some (by kernel_rfl))
  f337 := Tryd.func152.trans (congrArg some (by kernel_rfl))
  f338 := Tryd.func153.trans (congrArg some (by kernel_rfl))
  t0 := Tryd.underlying0
  a0 := Tryd.isAgg0
  z0 := Tryd.sizeOf0
  v0 := Tryd.zeroValue0
  t2 := Tryd.underlying2
  a2 := Tryd.isAgg2
  z2 := Tryd.sizeOf2
  v2 := Tryd.zeroValue2
  t3 := Tryd.underlying3
  a3 := Tryd.isAgg3
  z3 := Tryd.sizeOf3
  v3 := Tryd.zeroValue3
  t4 := Tryd.underlying4
  a4 := Tryd.isAgg4
  z4 := Tryd.sizeOf4
  v4 := Tryd.zeroValue4
  t5 := Tryd.underlying5
  a5 := Tryd.isAgg5
  z5 := Tryd.sizeOf5
  v5 := Tryd.zeroValue5
  t9 := Tryd.underlying9
  a9 := Tryd.isAgg9
  z9 := Tryd.sizeOf9
  v9 := Tryd.zeroValue9
  t20 := Tryd.underlying20
  a20 := Tryd.isAgg20
  z20 := Tryd.sizeOf20
  v20 := Tryd.zeroValue20
  t37 := Tryd.underlying140
  a37 := Tryd.isAgg140
  z37 := Tryd.sizeOf140
  v37 := Tryd.zeroValue140
  t46 := Tryd.underlying137
  a46 := Tryd.isAgg137
  z46 := Tryd.sizeOf137
  v46 := Tryd.zeroValue137
  t51 := Tryd.underlying173
  a51 := Tryd.isAgg173
  z51 := Tryd.sizeOf173
  v51 := Tryd.zeroValue173
  t53 := Tryd.underlying165
  a53 := Tryd.isAgg165
  z53 := Tryd.sizeOf165
  v53 := Tryd.zeroValue165
  t171 := Tryd.underlying164
  a171 := Tryd.isAgg164
  z171 := Tryd.sizeOf164
  v171 := Tryd.zeroValue164
  t173 := Tryd.underlying168
  a173 := Tryd.isAgg168
  z173 := Tryd.sizeOf168
  v173 := Tryd.zeroValue168
  t212 := Tryd.underlying172
  a212 := Tryd.isAgg172
  z212 := Tryd.sizeOf172
  v212 := Tryd.zeroValue172
  t213 := Tryd.underlying174
  a213 := Tryd.isAgg174
  z213 := Tryd.sizeOf174
  t232 := Tryd.underlying177
  a232 := Tryd.isAgg177
  z232 := Tryd.sizeOf177
  v232 := Tryd.zeroValue177
  t233 := Tryd.underlying178
  a233 := Tryd.isAgg178
  z233 := Tryd.sizeOf178
  v233 := Tryd.zeroValue178
  g17 := by kernel_rfl
  g18 := by kernel_rfl
  g19 := by kernel_rfl
  i0 := by kernel_rfl
  i2 := by kernel_rfl
  i3 := by kernel_rfl
  i4 := by kernel_rfl
  i5 := by kernel_rfl
  i9 := by kernel_rfl
  i20 := by kernel_rfl
  i37 := by kernel_rfl
  i46 := by kernel_rfl
  i51 := by kernel_rfl
  i53 := by kernel_rfl
  i171 := by kernel_rfl
  i173 := by kernel_rfl
  i212 := by kernel_rfl
  i232 := by kernel_rfl
  i233 := by kernel_rfl
  m17 := by kernel_rfl
  m18 := by kernel_rfl
  m19 := by kernel_rfl }
open Go.RowKit Go.Sort Go.Lib in
theorem Tryd.strconv_Itoa (n : Int) (h0 : -9223372036854775808 ≤ n) (h1 : n ≤ 9223372036854775807) (w : World) (htab : Lib.TabIs Tryd.prog w "internal/strconv.uint64pow10" .u64 Lib.pow10Tab) :
    Calls Tryd.prog 138 #[.int .i64 n] w fun e w' => e = .returned (.string ⟨(Lib.itoa n).toArray⟩) ∧ ∃ k os, w' = grow (w.drewN k) os := Any.strconv_Itoa Tryd.laysM171 n h0 h1 w htab
end Go.Proofs
end
section
namespace Go.Proofs.YtapijkdgkajoeaaDoor.PF
open Go.RowKit Go.Proofs.YtapijkdgkajoeaaDoorW.PrintWords Go.Proofs.YtapijkdgkajoeaaDoorW.PrintLast Go.Proofs.YtapijkdgkajoeaaDoorW.PrintMore
set_option linter.unusedVariables false
set_option linter.unusedSimpArgs false
def putT (sep : List UInt8) (l : List Int) : List UInt8 := l.flatMap fun n => sep ++ Lib.itoa n
theorem putT_snoc (sep : List UInt8) (l : List Int) (n : Int) : putT sep (l ++ [n]) = putT sep l ++ (sep ++ Lib.itoa n) := by simp [putT]
theorem putT_app (sep : List UInt8) (l m : List Int) : putT sep (l ++ m) = putT sep l ++ putT sep m := by simp [putT]
theorem strCells_mk (l : List UInt8) : Lib.strCells ⟨l.toArray⟩ = Lib.byteCells l := by simp [Lib.strCells, Lib.byteCells]
theorem size_mk (l : List UInt8) : (⟨l.toArray⟩ : ByteArray).size = l.length := by simp [ByteArray.size]
theorem byteCells_app (l m : List UInt8) : Lib.byteCells (l ++ m) = Lib.byteCells l ++ Lib.byteCells m := by simp [Lib.byteCells]
theorem Itoa_calls (n : Int) (h0 : -9223372036854775808 ≤ n) (h1 : n ≤ 9223372036854775807) (w : World) (hT : TabH w) :
    Calls Tryd.prog 138 #[.int .i64 n] w fun e w' => e = .returned (.string ⟨(Lib.itoa n).toArray⟩) ∧ Below w.heap.size w w' := by
  refine (Tryd.strconv_Itoa n h0 h1 w hT.out).mono ?_
  rintro e w' ⟨rfl, k, os, rfl⟩
  exact ⟨rfl, Lib.below_grow _ w (Nat.le_refl _) k os⟩
theorem addr_at (g x : Nat) : (⟨g, 0, none⟩ : Addr).add x = ⟨g, x, none⟩ := by
  unfold Addr.add
  split
  · rename_i h
    rw [h]
  · simp
theorem ofUsed {B b : Nat} {bs : List Value} {w : World} (h : Lib.BuilderAt 144 5 B b (.pointer (some ⟨b, 0, none⟩)) bs w) : Lib.IsBuilder 144 5 B b bs w := Or.inr h
theorem c_of_block {w : World} {g : Nat} {l : List Int} {fr : Nat × Nat} (hg : w.heap[g]? = some (.cells (l.map (Value.int .i64)).toArray 3 fr)) (hm : l.length ≤ 9223372036854775807) : Kd.C (Kd.int .i64) w (some ⟨g, 0, none⟩) l.length l := by
  refine ⟨rfl, hm, fun _ => ⟨_, rfl, fun j p hj => ⟨[.int .i64 p], rfl, rfl, fun i u hu => ?_⟩⟩⟩
  match i, hu with
  | 0, hu =>
    obtain rfl := Option.some.inj hu
    have e : (⟨g, 0, none⟩ : Addr).add (j * (Kd.int .i64).sz + 0) = ⟨g, j, none⟩ := by
      have h1 : (Kd.int .i64).sz = 1 := rfl
      rw [h1, Nat.mul_one, Nat.add_zero, addr_at]
    rw [e, Lib.cell_of_heap hg]
    simp [hj]
theorem rd_mem {l : List Int} {x : Int} (h0 : 0 ≤ x) (h1 : x < l.length) : rd l x ∈ l := by
  have e : x.toNat < l.length := by omega
  have : rd l x = l[x.toNat] := by simp [rd, List.getD, e]
  rw [this]
  exact List.getElem_mem e
theorem take_rd {l : List Int} {x : Int} (h0 : 0 ≤ x) (h1 : x < l.length) : l.take (x + 1).toNat = l.take x.toNat ++ [rd l x] := by
  have e : x.toNat < l.length := by omega
  have e2 : rd l x = l[x.toNat] := by simp [rd, List.getD, e]
  have e3 : (x + 1).toNat = x.toNat + 1 := by omega
  rw [e2, e3, List.take_add_one]
  simp [e]
theorem putT_len_take (sep : List UInt8) (l : List Int) (i : Nat) : (putT sep (l.take i)).length ≤ (putT sep l).length := by
  have h := putT_app sep (l.take i) (l.drop i)
  rw [List.take_append_drop] at h
  rw [h, List.length_append]
  omega
theorem tab_B {B : Nat} {w w' : World} (h : TabH w) (hb : Below B w w') (hB : 0 < B) : TabH w' := by
  obtain ⟨h⟩ := h
  refine ⟨?_⟩
  unfold Lib.TabIs World.var? at h ⊢
  rw [tabG] at h ⊢
  simp only [Option.bind_some] at h ⊢
  rw [hb.block 0 hB]
  exact h
set_option maxHeartbeats 4000000 in
set_option maxRecDepth 100000 in
theorem put_calls (B b g : Nat) (bs : List Value) (sep : List UInt8) (c : Nat) (l : List Int) (fr : Nat × Nat) (w : World) (hT : TabH w) (hI : Lib.IsBuilder 144 5 B b bs w)
    (hg : w.heap[g]? = some (.cells (l.map (Value.int .i64)).toArray 3 fr)) (hgb : g ≠ b) (hl : ∀ n ∈ l, -9223372036854775808 ≤ n ∧ n ≤ 9223372036854775807) (hm : l.length ≤ 9223372036854775806)
    (hlen : bs.length + (putT sep l).length ≤ 140737488355328) (hBw : B ≤ w.heap.size) (hB0 : 0 < B) :
    Calls Tryd.prog 126 #[.pointer (some ⟨b, 0, none⟩), .string ⟨sep.toArray⟩, .slice (some ⟨g, 0, none⟩) l.length c] w fun e w' => e = .returned (.tuple #[]) ∧ Lib.IsBuilder 144 5 B b (bs ++ Lib.byteCells (putT sep l)) w' ∧ Below B w w' ∧ KeptT b w w' := by
  have t144 := Tryd.underlying144
  have t157 := Tryd.underlying157
  have t51 := Tryd.underlying51
  go_enter Tryd.func126, Tryd.ntmps126
  go_wp2
  go_loopg [10] l.length (fun kq v10 w' => ∃ x : Int, v10 = .int .i64 x ∧ 0 ≤ x ∧ x ≤ (l.length : Int) ∧ (kq : Int) = l.length - x ∧ Lib.IsBuilder 144 5 B b (bs ++ Lib.byteCells (putT sep (l.take x.toNat))) w' ∧ Below B w w' ∧ KeptT b w w')
  case atStart => exact ⟨0, rfl, by omega, by omega, by omega, by simpa [putT, Lib.byteCells] using hI, Below.refl _ _, KeptT.refl _ _⟩
  case round =>
    obtain ⟨x, rfl, hx0, hx1, hk, hI1, hb1, hk1⟩ := hrel
    by_cases c3 : x < (l.length : Int)
    · have d3 : decide (x < (l.length : Int)) = true := decide_eq_true c3
      have p0 : 0 ≤ x := hx0
      have hC := c_of_block (hk1 g _ _ _ hg (by decide) hgb) (by omega)
      obtain ⟨ad, ea, hxc⟩ := Kd.at_int hC x p0 c3
      cases ea
      replace hxc : wr.cell? ⟨g, x.toNat, none⟩ = some (.int .i64 (rd l x)) := by rw [← addr_at g x.toNat]; exact hxc
      have hmem := hl _ (rd_mem hx0 c3)
      have hpl := putT_len_take sep l (x + 1).toNat
      rw [take_rd hx0 c3, putT_snoc] at hpl
      simp only [List.length_append] at hpl
      replace p0 := eq_true p0
      have q0 := eq_true c3
      go_wp2_with (go_at_call 125; refine (WriteString_calls B b _ ⟨sep.toArray⟩ _ hI1 ?l1 ?s1).mono ?_; (case l1 => rw [size_mk, List.length_append, Lib.byteCells_length]; omega); (case s1 => have := hb1.size; omega); rintro e w1 ⟨rfl, h2, hb2, hk2⟩)
      have hbx := hb1.trans hb2
      have hkx := hk1.trans hk2
      refine start_ (n := 6) (S := fun w' => Lib.BuilderAt 144 5 B b (.pointer (some ⟨b, 0, none⟩)) (bs ++ Lib.byteCells (putT sep (l.take x.toNat)) ++ Lib.strCells ⟨sep.toArray⟩) w' ∧ Below B w w' ∧ KeptT b w w') (ds := [5]) #[false, false, false, false, false, false] (by kernel_rfl) rfl rfl ⟨h2, hbx.drew, hkx⟩ (fun hHeld => ?_)
      refine pure_ (i := 0) (N := some 19) (v := ?_) (a' := ?_) #[true, false, false, false, false, false] rfl rfl (by kernel_rfl) (fun _ _ _ h => h) (Or.inl ⟨by rfl, ?_⟩) ?_ ?_
      rotate_left
      · intro w'
        go_simp
        with_reducible rfl
      rotate_left
      · simp only [Act.put, List.setIfInBounds_toArray, List.set_cons_zero, List.set_cons_succ, i64_w]
        rfl
      refine pure_ (i := 1) (N := some 20) (v := ?_) (a' := ?_) #[true, true, false, false, false, false] rfl rfl (by kernel_rfl) (fun _ _ _ h => h) (Or.inl ⟨by rfl, ?_⟩) ?_ ?_
      rotate_left
      · intro w'
        go_simp
        with_reducible rfl
      rotate_left
      · simp only [Act.put, List.setIfInBounds_toArray, List.set_cons_zero, List.set_cons_succ, i64_w]
        rfl
      refine pure_ (i := 2) (N := some 21) (v := ?_) (a' := ?_) #[true, true, true, false, false, false] rfl rfl (by kernel_rfl) (fun _ _ _ h => h) (Or.inl ⟨by rfl, ?_⟩) ?_ ?_
      rotate_left
      · intro w'
        go_simp
        with_reducible rfl
      rotate_left
      · simp only [Act.put, List.setIfInBounds_toArray, List.set_cons_zero, List.set_cons_succ, i64_w]
        rfl
      refine pure_ (i := 3) (N := some 22) (v := ?_) (a' := ?_) #[true, true, true, true, false, false] rfl rfl (by kernel_rfl) (fun _ _ _ h => h) (Or.inl ⟨by rfl, ?_⟩) ?_ ?_
      rotate_left
      · intro w'
        go_simp
        with_reducible rfl
      rotate_left
      · simp only [Act.put, List.setIfInBounds_toArray, List.set_cons_zero, List.set_cons_succ, i64_w]
        rfl
      refine one_ (i := 4) (N := some 23) #[true, true, true, true, true, false] rfl rfl (by kernel_rfl) (by decide) (fun K hK => ?_)
      obtain ⟨s0, s1, s2⟩ := hHeld
      refine goes_ Tryd.func138 (by kernel_rfl) rfl #[.int .i64 (rd l x)] (by rfl) rfl rfl (by simp only [List.map_toArray, List.map_cons, List.map_nil]; rfl) ?_
      with_reducible refine (Itoa_calls (rd l x) hmem.1 hmem.2 _ (tab_B hT s1 hB0)).mono ?_
      rintro e w3 ⟨rfl, hb3⟩
      refine ⟨_, rfl, ?_⟩
      refine hK.out _ _ ⟨builder_below s0 hb3, s1.trans (hb3.mono (Nat.le_trans hBw s1.size)), s2.trans (KeptT.below hb3)⟩ (fun hHeld => ?_)
      clear hK K
      refine norm_ (a' := ?_) ?_ ?_
      rotate_left
      · show Act.put _ (some 23) _ = _
        simp only [Act.put, List.setIfInBounds_toArray, List.set_cons_zero, List.set_cons_succ, i64_w]
        rfl
      refine last_ (i := 5) (N := some 24) #[true, true, true, true, true, true] rfl rfl (by kernel_rfl) (by decide) (fun K hK => ?_)
      obtain ⟨s0, s1, s2⟩ := hHeld
      refine goes_ Tryd.func125 (by kernel_rfl) rfl #[.pointer (some ⟨b, 0, none⟩), .string ⟨(Lib.itoa (rd l x)).toArray⟩] (by rfl) rfl rfl (by simp only [List.map_toArray, List.map_cons, List.map_nil]; rfl) ?_
      with_reducible refine (WriteString_calls B b _ ⟨(Lib.itoa (rd l x)).toArray⟩ _ (ofUsed s0) (by rw [size_mk, strCells_mk, List.length_append, List.length_append, Lib.byteCells_length, Lib.byteCells_length]; omega) (Nat.le_trans hBw s1.size)).mono ?_
      rintro e w3 ⟨rfl, h4, hb4, hk4⟩
      refine ⟨_, rfl, ?_⟩
      refine hK.out _ _ ?_
      clear hK K
      refine norm_ (a' := ?_) ?_ ?_
      rotate_left
      · show Act.put _ (some 24) _ = _
        simp only [Act.put, List.setIfInBounds_toArray, List.set_cons_zero, List.set_cons_succ, i64_w]
        rfl
      refine done_ (by kernel_rfl) ?_
      go_wp2
      go_roundg (gk - 1)
      case measure => omega
      case rel =>
        refine ⟨x + 1, rfl, by omega, by omega, by omega, ?_, ?_, ?_⟩
        · rw [take_rd hx0 c3, putT_snoc, byteCells_app, byteCells_app, ← strCells_mk sep, ← strCells_mk (Lib.itoa (rd l x)), ← List.append_assoc, ← List.append_assoc]
          exact ofUsed h4
        · exact s1.trans hb4
        · exact s2.trans hk4
    · have d3 : decide (x < (l.length : Int)) = false := decide_eq_false c3
      have ex : x.toNat = l.length := by omega
      rw [ex, List.take_length] at hI1
      go_wp2
      go_end0
      exact ⟨rfl, hI1, hb1, hk1⟩
end Go.Proofs.YtapijkdgkajoeaaDoor.PF
end
