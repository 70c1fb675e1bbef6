/- What the law's proof leans on. Part 5 of 6. -/
import Derived.Test.YtapijkdgkajoeaaDoorHiD
import Derived.Shelf.Strings.Builder1
import Derived.Lib.AppendIntMem
import Derived.Shelf.Small.Wraps
import Derived.Shelf.Strings.BuilderF
import Derived.Shelf.Strings.BuilderK
import Derived.Shelf.Strconv.Itoa0
import Derived.Shelf.Strconv.Itoa1
import Derived.Shelf.LaysM
import Derived.Shelf.Strconv.Itoa2
import Derived.Shelf.Strings.BuilderCap
import Derived.Shelf.Slices.Turned
import Derived.Shelf.Slices.Reverse
import Derived.Shelf.Slices.Equal
import Derived.Ground.Names2Prog
import Derived.Shelf.Slices.Clone
import Derived.Shelf.Slices.SearchI
import Derived.Shelf.Slices.Cells
import Derived.Shelf.Slices.Empties
import Derived.Shelf.Slices.Empties2
section
namespace Go.Proofs.YtapijkdgkajoeaaDoor.PF
open Go.RowKit Go.Proofs.YtapijkdgkajoeaaDoorW.PrintWords Go.Proofs.YtapijkdgkajoeaaDoorW.PrintLast Go.Proofs.YtapijkdgkajoeaaDoorW.PrintMore
attribute [local go_sem] max2_int min2_int max_two min_two
set_option linter.unusedVariables false
set_option linter.unusedSimpArgs false
attribute [local go_sem high] ixA103_1
mutual
def course_CheckSheet.j0 : Nat → Bool → Int → Int → Int → Int → Int → Int → Int → Int → List (S71) → Option (Int)
 | 0, _, _, _, _, _, _, _, _, _, _ => none
 | k + 1, x3, x200000, x200001, x200002, x200003, x200004, x200005, x200006, x200007, x200008 => if x3 = true then (if x200005 < 1 then (course_CheckSheet.j1 k true x200000 x200001 x200002 x200003 x200004 x200005 x200006 x200007 x200008) else (if x200005 > 1000 then (course_CheckSheet.j1 k true x200000 x200001 x200002 x200003 x200004 x200005 x200006 x200007 x200008) else (if (x200008.length : Int) < 1 then (course_CheckSheet.j1 k true x200000 x200001 x200002 x200003 x200004 x200005 x200006 x200007 x200008) else (course_CheckSheet.j1 k (decide ((x200008.length : Int) > 32)) x200000 x200001 x200002 x200003 x200004 x200005 x200006 x200007 x200008)))) else (course_CheckSheet.j1 k true x200000 x200001 x200002 x200003 x200004 x200005 x200006 x200007 x200008)
def course_CheckSheet.j1 : Nat → Bool → Int → Int → Int → Int → Int → Int → Int → Int → List (S71) → Option (Int)
 | 0, _, _, _, _, _, _, _, _, _, _ => none
 | k + 1, x52, x200000, x200001, x200002, x200003, x200004, x200005, x200006, x200007, x200008 => if x52 = true then (some 12) else (course_CheckSheet.l0 k x200008 (x200008.length : Int) 0)
def course_CheckSheet.l0 : Nat → List (S71) → Int → Int → Option (Int)
 | 0, _, _, _ => none
 | k + 1, x54, x55, x56 => if x56 < x55 then (if 0 ≤ x56 then (if x56 < (x54.length : Int) then ((course_every_at_length.f k (([(rd_T71 x54 x56).f0, (rd_T71 x54 x56).f1, (rd_T71 x54 x56).f3] : List Int))).bind fun t214 => (if t214 = true then (if (wrap64 (((rd_T71 x54 x56).f1) + ((rd_T71 x54 x56).f3))) > ((rd_T71 x54 x56).f0) then (some 12) else ((course_every_at_gram.f k (([(rd_T71 x54 x56).f2, (rd_T71 x54 x56).f4] : List Int))).bind fun t218 => (if t218 = true then (course_CheckSheet.l0 k x54 x55 (wrap64 (x56 + 1))) else (some 12)))) else (some 12))) else (none)) else (none)) else (some 0)
end
def course_CheckSheet.f (k : Nat) (a0_0 : Int) (a0_1 : Int) (a0_2 : Int) (a0_3 : Int) (a0_4 : Int) (a0_5 : Int) (a0_6 : Int) (a0_7 : Int) (l0_8 : List (S71)) : Option (Int) := (course_every_at_number.f k (([a0_0, a0_1, a0_4] : List Int))).bind fun t203 => (if t203 = true then ((course_every_at_day.f k (([a0_2, a0_3, a0_7] : List Int))).bind fun t207 => (if t207 = true then ((course_gram.f a0_6).bind fun t208 => (course_CheckSheet.j0 k t208 a0_0 a0_1 a0_2 a0_3 a0_4 a0_5 a0_6 a0_7 l0_8)) else (course_CheckSheet.j0 k false a0_0 a0_1 a0_2 a0_3 a0_4 a0_5 a0_6 a0_7 l0_8))) else (course_CheckSheet.j0 k false a0_0 a0_1 a0_2 a0_3 a0_4 a0_5 a0_6 a0_7 l0_8))
theorem course_CheckSheet.mono_l : ∀ k, (∀ y0 y1 y2 y3 y4 y5 y6 y7 y8 y9, LeO (course_CheckSheet.j0 k y0 y1 y2 y3 y4 y5 y6 y7 y8 y9) (course_CheckSheet.j0 (k + 1) y0 y1 y2 y3 y4 y5 y6 y7 y8 y9)) ∧ (∀ y0 y1 y2 y3 y4 y5 y6 y7 y8 y9, LeO (course_CheckSheet.j1 k y0 y1 y2 y3 y4 y5 y6 y7 y8 y9) (course_CheckSheet.j1 (k + 1) y0 y1 y2 y3 y4 y5 y6 y7 y8 y9)) ∧ (∀ y0 y1 y2, LeO (course_CheckSheet.l0 k y0 y1 y2) (course_CheckSheet.l0 (k + 1) y0 y1 y2))
 | 0 => ⟨fun _ _ _ _ _ _ _ _ _ _ r h => by simp [course_CheckSheet.j0] at h, fun _ _ _ _ _ _ _ _ _ _ r h => by simp [course_CheckSheet.j1] at h, fun _ _ _ r h => by simp [course_CheckSheet.l0] at h⟩
 | k + 1 => by
  obtain ⟨ih0, ih1, ih2⟩ := course_CheckSheet.mono_l k
  refine ⟨?_, ?_, ?_⟩
  ·
   intro y0 y1 y2 y3 y4 y5 y6 y7 y8 y9
   unfold course_CheckSheet.j0
   repeat' first
   | (with_reducible exact ih0 _ _ _ _ _ _ _ _ _ _)
   | (with_reducible exact ih1 _ _ _ _ _ _ _ _ _ _)
   | (with_reducible exact ih2 _ _ _)
   | (with_reducible exact course_every_at_day.mono _ _)
   | (with_reducible exact course_every_at_gram.mono _ _)
   | (with_reducible exact course_every_at_length.mono _ _)
   | (with_reducible exact course_every_at_number.mono _ _)
   | (with_reducible exact LeO.refl _)
   | (with_reducible exact LeO.none _)
   | (with_reducible refine LeO.ite ?_ ?_)
   | (with_reducible refine LeO.bind ?_ (fun _ => ?_))
   | exact ih0 _ _ _ _ _ _ _ _ _ _
   | exact ih1 _ _ _ _ _ _ _ _ _ _
   | exact ih2 _ _ _
   | exact course_every_at_day.mono _ _
   | exact course_every_at_gram.mono _ _
   | exact course_every_at_length.mono _ _
   | exact course_every_at_number.mono _ _
   | exact LeO.none _
   | refine LeO.ite ?_ ?_
   | refine LeO.bind ?_ (fun _ => ?_)
  ·
   intro y0 y1 y2 y3 y4 y5 y6 y7 y8 y9
   unfold course_CheckSheet.j1
   repeat' first
   | (with_reducible exact ih0 _ _ _ _ _ _ _ _ _ _)
   | (with_reducible exact ih1 _ _ _ _ _ _ _ _ _ _)
   | (with_reducible exact ih2 _ _ _)
   | (with_reducible exact course_every_at_day.mono _ _)
   | (with_reducible exact course_every_at_gram.mono _ _)
   | (with_reducible exact course_every_at_length.mono _ _)
   | (with_reducible exact course_every_at_number.mono _ _)
   | (with_reducible exact LeO.refl _)
   | (with_reducible exact LeO.none _)
   | (with_reducible refine LeO.ite ?_ ?_)
   | (with_reducible refine LeO.bind ?_ (fun _ => ?_))
   | exact ih0 _ _ _ _ _ _ _ _ _ _
   | exact ih1 _ _ _ _ _ _ _ _ _ _
   | exact ih2 _ _ _
   | exact course_every_at_day.mono _ _
   | exact course_every_at_gram.mono _ _
   | exact course_every_at_length.mono _ _
   | exact course_every_at_number.mono _ _
   | exact LeO.none _
   | refine LeO.ite ?_ ?_
   | refine LeO.bind ?_ (fun _ => ?_)
  ·
   intro y0 y1 y2
   unfold course_CheckSheet.l0
   repeat' first
   | (with_reducible exact ih0 _ _ _ _ _ _ _ _ _ _)
   | (with_reducible exact ih1 _ _ _ _ _ _ _ _ _ _)
   | (with_reducible exact ih2 _ _ _)
   | (with_reducible exact course_every_at_day.mono _ _)
   | (with_reducible exact course_every_at_gram.mono _ _)
   | (with_reducible exact course_every_at_length.mono _ _)
   | (with_reducible exact course_every_at_number.mono _ _)
   | (with_reducible exact LeO.refl _)
   | (with_reducible exact LeO.none _)
   | (with_reducible refine LeO.ite ?_ ?_)
   | (with_reducible refine LeO.bind ?_ (fun _ => ?_))
   | exact ih0 _ _ _ _ _ _ _ _ _ _
   | exact ih1 _ _ _ _ _ _ _ _ _ _
   | exact ih2 _ _ _
   | exact course_every_at_day.mono _ _
   | exact course_every_at_gram.mono _ _
   | exact course_every_at_length.mono _ _
   | exact course_every_at_number.mono _ _
   | exact LeO.none _
   | refine LeO.ite ?_ ?_
   | refine LeO.bind ?_ (fun _ => ?_)
theorem course_CheckSheet.mono : ∀ a0 a1 a2 a3 a4 a5 a6 a7 a8 k, LeO (course_CheckSheet.f k a0 a1 a2 a3 a4 a5 a6 a7 a8) (course_CheckSheet.f (k + 1) a0 a1 a2 a3 a4 a5 a6 a7 a8) := by
 intro a0 a1 a2 a3 a4 a5 a6 a7 a8 k
 obtain ⟨ih0, ih1, ih2⟩ := course_CheckSheet.mono_l k
 unfold course_CheckSheet.f
 repeat' first
   | (with_reducible exact ih0 _ _ _ _ _ _ _ _ _ _)
   | (with_reducible exact ih1 _ _ _ _ _ _ _ _ _ _)
   | (with_reducible exact ih2 _ _ _)
   | (with_reducible exact course_every_at_day.mono _ _)
   | (with_reducible exact course_every_at_gram.mono _ _)
   | (with_reducible exact course_every_at_length.mono _ _)
   | (with_reducible exact course_every_at_number.mono _ _)
   | (with_reducible exact LeO.refl _)
   | (with_reducible exact LeO.none _)
   | (with_reducible refine LeO.ite ?_ ?_)
   | (with_reducible refine LeO.bind ?_ (fun _ => ?_))
   | exact ih0 _ _ _ _ _ _ _ _ _ _
   | exact ih1 _ _ _ _ _ _ _ _ _ _
   | exact ih2 _ _ _
   | exact course_every_at_day.mono _ _
   | exact course_every_at_gram.mono _ _
   | exact course_every_at_length.mono _ _
   | exact course_every_at_number.mono _ _
   | exact LeO.none _
   | refine LeO.ite ?_ ?_
   | refine LeO.bind ?_ (fun _ => ?_)
set_option maxHeartbeats 8000000 in
set_option maxRecDepth 100000 in
theorem course_CheckSheet.calls (k : Nat) (a0_0 : Int) (a0_1 : Int) (a0_2 : Int) (a0_3 : Int) (a0_4 : Int) (a0_5 : Int) (a0_6 : Int) (a0_7 : Int) (A0_8 : Option Addr) (c0_8 : Nat) (l0_8 : List (S71)) (r : Int) (w : World) (hr0_8 : Kd.C k71 w A0_8 l0_8.length l0_8) (hc0_8 : l0_8.length ≤ c0_8) (h : course_CheckSheet.f k a0_0 a0_1 a0_2 a0_3 a0_4 a0_5 a0_6 a0_7 l0_8 = some r) :
  Calls Tryd.prog 31 #[.agg #[.int .i64 a0_0, .int .i64 a0_1, .int .i64 a0_2, .int .i64 a0_3, .int .i64 a0_4, .int .i64 a0_5, .int .i64 a0_6, .int .i64 a0_7, .slice A0_8 l0_8.length c0_8]] w fun e w' => e = .returned (.int .i64 r) ∧ Below w.heap.size w w' := by
 have hu47 := Tryd.underlying47
 have hu71 := Tryd.underlying71
 have HR0_8 := Aside0.mk (hr0_8)
 have HC0_8 := Aside0.mk (hc0_8)
 clear hr0_8 hc0_8
 have HB := Bw.mk (Below.refl w.heap.size w)
 have H : ((course_every_at_number.f k (([a0_0, a0_1, a0_4] : List Int))).bind fun t203 => (if t203 = true then ((course_every_at_day.f k (([a0_2, a0_3, a0_7] : List Int))).bind fun t207 => (if t207 = true then ((course_gram.f a0_6).bind fun t208 => (course_CheckSheet.j0 k t208 a0_0 a0_1 a0_2 a0_3 a0_4 a0_5 a0_6 a0_7 l0_8)) else (course_CheckSheet.j0 k false a0_0 a0_1 a0_2 a0_3 a0_4 a0_5 a0_6 a0_7 l0_8))) else (course_CheckSheet.j0 k false a0_0 a0_1 a0_2 a0_3 a0_4 a0_5 a0_6 a0_7 l0_8))) = some r := h
 clear h
 have HC2 := Aside0.mk (H)
 clear H
 go_enter Tryd.func31, Tryd.ntmps31
 go_upto_region 1 with (first | ((with_reducible refine gate_dst (N := 1) rfl ?_); (try (refine gate_guard (by rfl) ?_; dsimp only)); refine bxE 1 47 #[.int .i64 a0_0, .int .i64 a0_1, .int .i64 a0_2, .int .i64 a0_3, .int .i64 a0_4, .int .i64 a0_5, .int .i64 a0_6, .int .i64 a0_7, .slice A0_8 l0_8.length c0_8] (by rfl) (by rfl) (by first | (go_simp; done) | (go_simp; rfl)) ?_; intro gb199 hg w3 hbox hb; have BK199 := Bk.mk (hbox); have GE199 := eB w hg; replace HB := bS w hb; clear hb hbox hg))
 (try simp only [Act.put, List.setIfInBounds_toArray, List.set_cons_zero, List.set_cons_succ])
 go_cut [3] (fun v3 wc => ∃ (kq : Nat) (x3_1 : Bool), v3 = .bool x3_1 ∧ Aside0 (course_CheckSheet.j0 kq x3_1 a0_0 a0_1 a0_2 a0_3 a0_4 a0_5 a0_6 a0_7 l0_8 = some r) ∧ Aside0 (kq ≤ k) ∧ Bk wc gb199 (.cells #[.int .i64 a0_0, .int .i64 a0_1, .int .i64 a0_2, .int .i64 a0_3, .int .i64 a0_4, .int .i64 a0_5, .int .i64 a0_6, .int .i64 a0_7, (.slice A0_8 l0_8.length c0_8)] 47 (0, 0)) ∧ Bw w wc)
 case first =>
  have H := HC2.out
  clear HC2
  obtain ⟨y200, hy200⟩ : ∃ y_ : List Int, y_ = (([a0_0, a0_1, a0_4] : List Int)) := ⟨_, rfl⟩
  replace H : ((course_every_at_number.f k y200).bind fun t203 => (if t203 = true then ((course_every_at_day.f k (([a0_2, a0_3, a0_7] : List Int))).bind fun t207 => (if t207 = true then ((course_gram.f a0_6).bind fun t208 => (course_CheckSheet.j0 k t208 a0_0 a0_1 a0_2 a0_3 a0_4 a0_5 a0_6 a0_7 l0_8)) else (course_CheckSheet.j0 k false a0_0 a0_1 a0_2 a0_3 a0_4 a0_5 a0_6 a0_7 l0_8))) else (course_CheckSheet.j0 k false a0_0 a0_1 a0_2 a0_3 a0_4 a0_5 a0_6 a0_7 l0_8))) = some r := by first | (rw [hy200]; with_reducible exact H) | (have H2_ := (Option.bind_some _ _).symm.trans H; rw [hy200]; with_reducible exact H2_) | (have H2_ := (Option.bind_some _ _).symm.trans H; with_reducible exact H2_) | with_reducible exact H | (rw [hy200]; exact H) | exact H
  have Ny200 := Aside0.mk (hy200)
  clear hy200
  replace H := Option.bind_eq_some_iff.mp H
  obtain ⟨t203, A40, H⟩ := H
  have A4 := Aside0.mk (A40)
  clear A40
  by_cases c5 : t203 = true
  ·
   subst c5
   rw [if_pos rfl] at H
   obtain ⟨y204, hy204⟩ : ∃ y_ : List Int, y_ = (([a0_2, a0_3, a0_7] : List Int)) := ⟨_, rfl⟩
   replace H : ((course_every_at_day.f k y204).bind fun t207 => (if t207 = true then ((course_gram.f a0_6).bind fun t208 => (course_CheckSheet.j0 k t208 a0_0 a0_1 a0_2 a0_3 a0_4 a0_5 a0_6 a0_7 l0_8)) else (course_CheckSheet.j0 k false a0_0 a0_1 a0_2 a0_3 a0_4 a0_5 a0_6 a0_7 l0_8))) = some r := by first | (rw [hy204]; with_reducible exact H) | (have H2_ := (Option.bind_some _ _).symm.trans H; rw [hy204]; with_reducible exact H2_) | (have H2_ := (Option.bind_some _ _).symm.trans H; with_reducible exact H2_) | with_reducible exact H | (rw [hy204]; exact H) | exact H
   have Ny204 := Aside0.mk (hy204)
   clear hy204
   replace H := Option.bind_eq_some_iff.mp H
   obtain ⟨t207, A60, H⟩ := H
   have A6 := Aside0.mk (A60)
   clear A60
   by_cases c7 : t207 = true
   ·
    subst c7
    rw [if_pos rfl] at H
    replace H := Option.bind_eq_some_iff.mp H
    obtain ⟨t208, A80, H⟩ := H
    have A8 := Aside0.mk (A80)
    clear A80
    have H' := Aside0.mk H
    clear H
    obtain ⟨hcz9_0, hcz9_1, hcz9_2, hcz9_3, hcz9_4, hcz9_5, hcz9_6, hcz9_7, hcz9_8, hfz9_0, hfz9_1, hfz9_2, hfz9_3, hfz9_4, hfz9_5, hfz9_6, hfz9_7, hfz9_8⟩ := cz9 BK199
    go_wp2_with (first | ((with_reducible refine gate_dst (N := 12) rfl ?_); (try (refine gate_guard (by rfl) ?_; dsimp only)); refine Kd.R_lit (Kd.int .i64) _ 3 ?hg (N := 12) ?hd (xs := ([a0_0, a0_1, a0_4] : List Int)) (inner := [.int .i64 a0_0, .int .i64 a0_1, .int .i64 a0_4]) (ok := fun _ => True) (okp := fun _ => True) ?hr ?hp (fun _ hk => hk) trivial (Below.refl _ _) (Nat.le_refl _) (by simp) ?_; (case hd => rfl); (case hg => rfl); (case hr => first | (go_simp; done) | (go_simp; rfl)); (case hp => exact (Reps.one (show Kd.M (Kd.int .i64) _ _ _ a0_0 [.int .i64 a0_0] from rfl) (Reps.one (show Kd.M (Kd.int .i64) _ _ _ a0_1 [.int .i64 a0_1] from rfl) (Reps.one (show Kd.M (Kd.int .i64) _ _ _ a0_4 [.int .i64 a0_4] from rfl) (Reps.none _ _))))); intro v201 w10 ho11 hb hg_ hnew_; clear hg_ hnew_; (first | rw [← Ny200.out] at ho11 | (simp only [Int.reduceToNat] at ho11; rw [← Ny200.out] at ho11)); have n0_ := Aside0.mk (Kd.R_lower ho11 (bz w)); replace BK199 := kB gb199 hb; replace HB := bS w hb; have HO202 := n0_; clear n0_ hb ho11; obtain ⟨Ao12, co12, eo12⟩ := Kd.R_slice HO202.out; subst eo12) | ((with_reducible refine gate_callee (f := 90) rfl ?_); refine goesLM (some 13) rfl rfl Tryd.func90 (by kernel_rfl) rfl #[.func (.func 91) #[] #[], .slice Ao12 y200.length co12] rfl (by rfl) ?_; (with_reducible refine (course_every_at_number.calls k  _ _ y200 true _ ?side1 ?side2 A4.out).mono ?_); (case side1 => exact cP (Kd.R_reads' HO202.out).2.2); (case side2 => exact (Kd.R_reads' HO202.out).2.1); rintro e w' ⟨rfl, ⟨nd, rfl⟩⟩; refine ⟨_, rfl, ?_⟩; obtain ⟨hcz13_0, hcz13_1, hcz13_2, hcz13_3, hcz13_4, hcz13_5, hcz13_6, hcz13_7, hcz13_8, hfz13_0, hfz13_1, hfz13_2, hfz13_3, hfz13_4, hfz13_5, hfz13_6, hfz13_7, hfz13_8⟩ := cz9 BK199) | ((with_reducible refine gate_dst (N := 21) rfl ?_); (try (refine gate_guard (by rfl) ?_; dsimp only)); refine Kd.R_lit (Kd.int .i64) _ 3 ?hg (N := 21) ?hd (xs := ([a0_2, a0_3, a0_7] : List Int)) (inner := [.int .i64 a0_2, .int .i64 a0_3, .int .i64 a0_7]) (ok := fun _ => True) (okp := fun _ => True) ?hr ?hp (fun _ hk => hk) trivial (Below.refl _ _) (Nat.le_refl _) (by simp) ?_; (case hd => rfl); (case hg => rfl); (case hr => first | (go_simp; done) | (go_simp; rfl)); (case hp => exact (Reps.one (show Kd.M (Kd.int .i64) _ _ _ a0_2 [.int .i64 a0_2] from rfl) (Reps.one (show Kd.M (Kd.int .i64) _ _ _ a0_3 [.int .i64 a0_3] from rfl) (Reps.one (show Kd.M (Kd.int .i64) _ _ _ a0_7 [.int .i64 a0_7] from rfl) (Reps.none _ _))))); intro v205 w14 ho15 hb hg_ hnew_; clear hg_ hnew_; (first | rw [← Ny204.out] at ho15 | (simp only [Int.reduceToNat] at ho15; rw [← Ny204.out] at ho15)); have n0_ := Aside0.mk (Kd.R_elder' (by (with_reducible repeat (first | apply Kd.R_alloc | apply Kd.R_drewN | apply Kd.R_drew)); exact HO202.out) (Kd.R_base ho15) hb); have n1_ := Aside0.mk (Kd.R_lower (Kd.R_new' ho15 (Kd.R_lt (by (with_reducible repeat (first | apply Kd.R_alloc | apply Kd.R_drewN | apply Kd.R_drew)); exact HO202.out))) (bz w)); replace BK199 := kB gb199 hb; replace HB := bS w hb; clear HO202; have HO202 := n0_; have HO206 := n1_; clear n0_ n1_ hb ho15; obtain ⟨Ao16, co16, eo16⟩ := Kd.R_slice HO206.out; subst eo16) | (go_at_call 90; (with_reducible refine (course_every_at_day.calls k  _ _ y204 true _ ?side1 ?side2 A6.out).mono ?_); (case side1 => exact cP (Kd.R_reads' HO206.out).2.2); (case side2 => exact (Kd.R_reads' HO206.out).2.1); rintro e w' ⟨rfl, ⟨nd, rfl⟩⟩; obtain ⟨hcz17_0, hcz17_1, hcz17_2, hcz17_3, hcz17_4, hcz17_5, hcz17_6, hcz17_7, hcz17_8, hfz17_0, hfz17_1, hfz17_2, hfz17_3, hfz17_4, hfz17_5, hfz17_6, hfz17_7, hfz17_8⟩ := cz9 BK199) | (go_at_call 92; (with_reducible refine (course_gram.calls a0_6 t208 _ A8.out).mono ?_); rintro e w' ⟨rfl, ⟨nd, rfl⟩⟩))
    go_meet
    case rel => exact ⟨_, (t208), (by first | rfl | (simp; done) | (simp [*]; done)), H', ⟨by first | omega | exact Nat.le_refl _⟩, inferInstance, inferInstance⟩
   ·
    replace c7 := Bool.eq_false_iff.mpr c7
    subst c7
    rw [if_neg (show ¬ (false = true) by decide)] at H
    have H' := Aside0.mk H
    clear H
    obtain ⟨hcz18_0, hcz18_1, hcz18_2, hcz18_3, hcz18_4, hcz18_5, hcz18_6, hcz18_7, hcz18_8, hfz18_0, hfz18_1, hfz18_2, hfz18_3, hfz18_4, hfz18_5, hfz18_6, hfz18_7, hfz18_8⟩ := cz9 BK199
    go_wp2_with (first | ((with_reducible refine gate_dst (N := 12) rfl ?_); (try (refine gate_guard (by rfl) ?_; dsimp only)); refine Kd.R_lit (Kd.int .i64) _ 3 ?hg (N := 12) ?hd (xs := ([a0_0, a0_1, a0_4] : List Int)) (inner := [.int .i64 a0_0, .int .i64 a0_1, .int .i64 a0_4]) (ok := fun _ => True) (okp := fun _ => True) ?hr ?hp (fun _ hk => hk) trivial (Below.refl _ _) (Nat.le_refl _) (by simp) ?_; (case hd => rfl); (case hg => rfl); (case hr => first | (go_simp; done) | (go_simp; rfl)); (case hp => exact (Reps.one (show Kd.M (Kd.int .i64) _ _ _ a0_0 [.int .i64 a0_0] from rfl) (Reps.one (show Kd.M (Kd.int .i64) _ _ _ a0_1 [.int .i64 a0_1] from rfl) (Reps.one (show Kd.M (Kd.int .i64) _ _ _ a0_4 [.int .i64 a0_4] from rfl) (Reps.none _ _))))); intro v201 w19 ho20 hb hg_ hnew_; clear hg_ hnew_; (first | rw [← Ny200.out] at ho20 | (simp only [Int.reduceToNat] at ho20; rw [← Ny200.out] at ho20)); have n0_ := Aside0.mk (Kd.R_lower ho20 (bz w)); replace BK199 := kB gb199 hb; replace HB := bS w hb; have HO202 := n0_; clear n0_ hb ho20; obtain ⟨Ao21, co21, eo21⟩ := Kd.R_slice HO202.out; subst eo21) | ((with_reducible refine gate_callee (f := 90) rfl ?_); refine goesLM (some 13) rfl rfl Tryd.func90 (by kernel_rfl) rfl #[.func (.func 91) #[] #[], .slice Ao21 y200.length co21] rfl (by rfl) ?_; (with_reducible refine (course_every_at_number.calls k  _ _ y200 true _ ?side1 ?side2 A4.out).mono ?_); (case side1 => exact cP (Kd.R_reads' HO202.out).2.2); (case side2 => exact (Kd.R_reads' HO202.out).2.1); rintro e w' ⟨rfl, ⟨nd, rfl⟩⟩; refine ⟨_, rfl, ?_⟩; obtain ⟨hcz22_0, hcz22_1, hcz22_2, hcz22_3, hcz22_4, hcz22_5, hcz22_6, hcz22_7, hcz22_8, hfz22_0, hfz22_1, hfz22_2, hfz22_3, hfz22_4, hfz22_5, hfz22_6, hfz22_7, hfz22_8⟩ := cz9 BK199) | ((with_reducible refine gate_dst (N := 21) rfl ?_); (try (refine gate_guard (by rfl) ?_; dsimp only)); refine Kd.R_lit (Kd.int .i64) _ 3 ?hg (N := 21) ?hd (xs := ([a0_2, a0_3, a0_7] : List Int)) (inner := [.int .i64 a0_2, .int .i64 a0_3, .int .i64 a0_7]) (ok := fun _ => True) (okp := fun _ => True) ?hr ?hp (fun _ hk => hk) trivial (Below.refl _ _) (Nat.le_refl _) (by simp) ?_; (case hd => rfl); (case hg => rfl); (case hr => first | (go_simp; done) | (go_simp; rfl)); (case hp => exact (Reps.one (show Kd.M (Kd.int .i64) _ _ _ a0_2 [.int .i64 a0_2] from rfl) (Reps.one (show Kd.M (Kd.int .i64) _ _ _ a0_3 [.int .i64 a0_3] from rfl) (Reps.one (show Kd.M (Kd.int .i64) _ _ _ a0_7 [.int .i64 a0_7] from rfl) (Reps.none _ _))))); intro v205 w23 ho24 hb hg_ hnew_; clear hg_ hnew_; (first | rw [← Ny204.out] at ho24 | (simp only [Int.reduceToNat] at ho24; rw [← Ny204.out] at ho24)); have n0_ := Aside0.mk (Kd.R_elder' (by (with_reducible repeat (first | apply Kd.R_alloc | apply Kd.R_drewN | apply Kd.R_drew)); exact HO202.out) (Kd.R_base ho24) hb); have n1_ := Aside0.mk (Kd.R_lower (Kd.R_new' ho24 (Kd.R_lt (by (with_reducible repeat (first | apply Kd.R_alloc | apply Kd.R_drewN | apply Kd.R_drew)); exact HO202.out))) (bz w)); replace BK199 := kB gb199 hb; replace HB := bS w hb; clear HO202; have HO202 := n0_; have HO206 := n1_; clear n0_ n1_ hb ho24; obtain ⟨Ao25, co25, eo25⟩ := Kd.R_slice HO206.out; subst eo25) | (go_at_call 90; (with_reducible refine (course_every_at_day.calls k  _ _ y204 false _ ?side1 ?side2 A6.out).mono ?_); (case side1 => exact cP (Kd.R_reads' HO206.out).2.2); (case side2 => exact (Kd.R_reads' HO206.out).2.1); rintro e w' ⟨rfl, ⟨nd, rfl⟩⟩))
    go_meet
    case rel => exact ⟨_, (false), (by first | rfl | (simp; done) | (simp [*]; done)), H', ⟨by first | omega | exact Nat.le_refl _⟩, inferInstance, inferInstance⟩
  ·
   replace c5 := Bool.eq_false_iff.mpr c5
   subst c5
   rw [if_neg (show ¬ (false = true) by decide)] at H
   have H' := Aside0.mk H
   clear H
   obtain ⟨hcz26_0, hcz26_1, hcz26_2, hcz26_3, hcz26_4, hcz26_5, hcz26_6, hcz26_7, hcz26_8, hfz26_0, hfz26_1, hfz26_2, hfz26_3, hfz26_4, hfz26_5, hfz26_6, hfz26_7, hfz26_8⟩ := cz9 BK199
   go_wp2_with (first | ((with_reducible refine gate_dst (N := 12) rfl ?_); (try (refine gate_guard (by rfl) ?_; dsimp only)); refine Kd.R_lit (Kd.int .i64) _ 3 ?hg (N := 12) ?hd (xs := ([a0_0, a0_1, a0_4] : List Int)) (inner := [.int .i64 a0_0, .int .i64 a0_1, .int .i64 a0_4]) (ok := fun _ => True) (okp := fun _ => True) ?hr ?hp (fun _ hk => hk) trivial (Below.refl _ _) (Nat.le_refl _) (by simp) ?_; (case hd => rfl); (case hg => rfl); (case hr => first | (go_simp; done) | (go_simp; rfl)); (case hp => exact (Reps.one (show Kd.M (Kd.int .i64) _ _ _ a0_0 [.int .i64 a0_0] from rfl) (Reps.one (show Kd.M (Kd.int .i64) _ _ _ a0_1 [.int .i64 a0_1] from rfl) (Reps.one (show Kd.M (Kd.int .i64) _ _ _ a0_4 [.int .i64 a0_4] from rfl) (Reps.none _ _))))); intro v201 w27 ho28 hb hg_ hnew_; clear hg_ hnew_; (first | rw [← Ny200.out] at ho28 | (simp only [Int.reduceToNat] at ho28; rw [← Ny200.out] at ho28)); have n0_ := Aside0.mk (Kd.R_lower ho28 (bz w)); replace BK199 := kB gb199 hb; replace HB := bS w hb; have HO202 := n0_; clear n0_ hb ho28; obtain ⟨Ao29, co29, eo29⟩ := Kd.R_slice HO202.out; subst eo29) | ((with_reducible refine gate_callee (f := 90) rfl ?_); refine goesLM (some 13) rfl rfl Tryd.func90 (by kernel_rfl) rfl #[.func (.func 91) #[] #[], .slice Ao29 y200.length co29] rfl (by rfl) ?_; (with_reducible refine (course_every_at_number.calls k  _ _ y200 false _ ?side1 ?side2 A4.out).mono ?_); (case side1 => exact cP (Kd.R_reads' HO202.out).2.2); (case side2 => exact (Kd.R_reads' HO202.out).2.1); rintro e w' ⟨rfl, ⟨nd, rfl⟩⟩; refine ⟨_, rfl, ?_⟩))
   go_meet
   case rel => exact ⟨_, (false), (by first | rfl | (simp; done) | (simp [*]; done)), H', ⟨by first | omega | exact Nat.le_refl _⟩, inferInstance, inferInstance⟩
 case rest =>
  clear HC2
  try clear c1
  try clear p2
  try clear c3
  try clear c5
  try clear c7
  try clear c10
  obtain ⟨kq, x3_1, rfl, HA, HJ1, BK199, HB⟩ := hcut
  cases kq with
  | zero => exact absurd HA.out (by simp [course_CheckSheet.j0])
  | succ kj1 =>
   have H := HA.out
   clear HA
   simp only [course_CheckSheet.j0] at H
   have HC30 := Aside0.mk (H)
   clear H
   go_upto_region 2 with (fail)
   go_cut [52] (fun v52 wc => ∃ (kq : Nat) (x52_29 : Bool), v52 = .bool x52_29 ∧ Aside0 (course_CheckSheet.j1 kq x52_29 a0_0 a0_1 a0_2 a0_3 a0_4 a0_5 a0_6 a0_7 l0_8 = some r) ∧ Aside0 (kq ≤ kj1) ∧ Bk wc gb199 (.cells #[.int .i64 a0_0, .int .i64 a0_1, .int .i64 a0_2, .int .i64 a0_3, .int .i64 a0_4, .int .i64 a0_5, .int .i64 a0_6, .int .i64 a0_7, (.slice A0_8 l0_8.length c0_8)] 47 (0, 0)) ∧ Bw w wc)
   case first =>
    have H := HC30.out
    clear HC30
    by_cases c31 : x3_1 = true
    ·
     subst c31
     rw [if_pos rfl] at H
     by_cases c32 : a0_5 < 1
     ·
      rw [if_pos c32] at H
      have c32b0 : decide (a0_5 < 1) = true := decide_eq_true c32
      clear c32
      (first | rw [c32b0] | (simp only [i64_w]; rw [c32b0]) | skip)
      have H' := Aside0.mk H
      clear H
      obtain ⟨hcz33_0, hcz33_1, hcz33_2, hcz33_3, hcz33_4, hcz33_5, hcz33_6, hcz33_7, hcz33_8, hfz33_0, hfz33_1, hfz33_2, hfz33_3, hfz33_4, hfz33_5, hfz33_6, hfz33_7, hfz33_8⟩ := cz9 BK199
      go_wp2
      go_meet
      case rel => exact ⟨_, (true), (by first | rfl | (simp; done) | (simp [*]; done)), H', ⟨by have := HJ1.out; first | omega | exact Nat.le_refl _⟩, inferInstance, inferInstance⟩
     ·
      rw [if_neg c32] at H
      have c32b0 : decide (a0_5 < 1) = false := decide_eq_false c32
      clear c32
      (first | rw [c32b0] | (simp only [i64_w]; rw [c32b0]) | skip)
      by_cases c34 : a0_5 > 1000
      ·
       rw [if_pos c34] at H
       have c34b0 : decide (1000 < a0_5) = true := decide_eq_true c34
       clear c34
       have H' := Aside0.mk H
       clear H
       obtain ⟨hcz35_0, hcz35_1, hcz35_2, hcz35_3, hcz35_4, hcz35_5, hcz35_6, hcz35_7, hcz35_8, hfz35_0, hfz35_1, hfz35_2, hfz35_3, hfz35_4, hfz35_5, hfz35_6, hfz35_7, hfz35_8⟩ := cz9 BK199
       go_wp2
       go_meet
       case rel => exact ⟨_, (true), (by first | rfl | (simp; done) | (simp [*]; done)), H', ⟨by have := HJ1.out; first | omega | exact Nat.le_refl _⟩, inferInstance, inferInstance⟩
      ·
       rw [if_neg c34] at H
       have c34b0 : decide (1000 < a0_5) = false := decide_eq_false c34
       clear c34
       by_cases c36 : (l0_8.length : Int) < 1
       ·
        rw [if_pos c36] at H
        have c36b0 : decide ((l0_8.length : Int) < 1) = true := decide_eq_true c36
        have c36b1 : decide (l0_8.length < 1) = true := decide_eq_true (by omega)
        clear c36
        have H' := Aside0.mk H
        clear H
        obtain ⟨hcz37_0, hcz37_1, hcz37_2, hcz37_3, hcz37_4, hcz37_5, hcz37_6, hcz37_7, hcz37_8, hfz37_0, hfz37_1, hfz37_2, hfz37_3, hfz37_4, hfz37_5, hfz37_6, hfz37_7, hfz37_8⟩ := cz9 BK199
        go_wp2
        go_meet
        case rel => exact ⟨_, (true), (by first | rfl | (simp; done) | (simp [*]; done)), H', ⟨by have := HJ1.out; first | omega | exact Nat.le_refl _⟩, inferInstance, inferInstance⟩
       ·
        rw [if_neg c36] at H
        have c36b0 : decide ((l0_8.length : Int) < 1) = false := decide_eq_false c36
        have c36b1 : decide (l0_8.length < 1) = false := decide_eq_false (by omega)
        clear c36
        have H' := Aside0.mk H
        clear H
        obtain ⟨hcz38_0, hcz38_1, hcz38_2, hcz38_3, hcz38_4, hcz38_5, hcz38_6, hcz38_7, hcz38_8, hfz38_0, hfz38_1, hfz38_2, hfz38_3, hfz38_4, hfz38_5, hfz38_6, hfz38_7, hfz38_8⟩ := cz9 BK199
        go_wp2
        go_meet
        case rel => exact ⟨_, (decide ((l0_8.length : Int) > 32)), (by first | rfl | (simp; done) | (simp [*]; done)), H', ⟨by have := HJ1.out; first | omega | exact Nat.le_refl _⟩, inferInstance, inferInstance⟩
    ·
     replace c31 := Bool.eq_false_iff.mpr c31
     subst c31
     rw [if_neg (show ¬ (false = true) by decide)] at H
     have H' := Aside0.mk H
     clear H
     go_wp2
     go_meet
     case rel => exact ⟨_, (true), (by first | rfl | (simp; done) | (simp [*]; done)), H', ⟨by have := HJ1.out; first | omega | exact Nat.le_refl _⟩, inferInstance, inferInstance⟩
   case rest =>
    clear HC30
    try clear c1
    try clear p2
    try clear c3
    try clear c5
    try clear c7
    try clear c10
    try clear c31
    try clear c32
    try clear c32b0
    try clear c34
    try clear c34b0
    try clear c36
    try clear c36b0
    try clear c36b1
    try clear p2
    obtain ⟨kq, x52_29, rfl, HA, HJ29, BK199, HB⟩ := hcut
    cases kq with
    | zero => exact absurd HA.out (by simp [course_CheckSheet.j1])
    | succ kj29 =>
     have H := HA.out
     clear HA
     simp only [course_CheckSheet.j1] at H
     by_cases c39 : x52_29 = true
     ·
      subst c39
      rw [if_pos rfl] at H
      obtain rfl := Option.some.inj H
      go_wp2
      go_ret
      exact ⟨by first | rfl | (simp [errW_none, errW_some] <;> rfl) | (simp [*, errW_none, errW_some] <;> rfl), bw w⟩
     ·
      replace c39 := Bool.eq_false_iff.mpr c39
      subst c39
      rw [if_neg (show ¬ (false = true) by decide)] at H
      have H' := Aside0.mk H
      clear H
      obtain ⟨hcz40_0, hcz40_1, hcz40_2, hcz40_3, hcz40_4, hcz40_5, hcz40_6, hcz40_7, hcz40_8, hfz40_0, hfz40_1, hfz40_2, hfz40_3, hfz40_4, hfz40_5, hfz40_6, hfz40_7, hfz40_8⟩ := cz9 BK199
      go_wp2
      go_loopg [56] kj29 (fun kq v56 w' => ∃ (x56_3 : Int), v56 = .int .i64 x56_3 ∧ Aside0 (course_CheckSheet.l0 kq l0_8 (l0_8.length : Int) x56_3 = some r) ∧ Aside0 (kq ≤ kj29) ∧ Bk w' gb199 (.cells #[.int .i64 a0_0, .int .i64 a0_1, .int .i64 a0_2, .int .i64 a0_3, .int .i64 a0_4, .int .i64 a0_5, .int .i64 a0_6, .int .i64 a0_7, (.slice A0_8 l0_8.length c0_8)] 47 (0, 0)) ∧ Bw w w')
      case atStart => exact ⟨(0), (by first | rfl | (simp; done) | (simp [*]; done)), H', ⟨Nat.le_refl _⟩, inferInstance, inferInstance⟩
      case round =>
       clear H'
       try clear c1
       try clear p2
       try clear c3
       try clear c5
       try clear c7
       try clear c10
       try clear c31
       try clear c32
       try clear c32b0
       try clear c34
       try clear c34b0
       try clear c36
       try clear c36b0
       try clear c36b1
       try clear c39
       try clear p2
       obtain ⟨x56_3, rfl, HA, HK3, BK199, HB⟩ := hrel
       cases gk with
       | zero => exact absurd HA.out (by simp [course_CheckSheet.l0])
       | succ k3 =>
        have H := HA.out
        clear HA
        simp only [course_CheckSheet.l0] at H
        by_cases c41 : x56_3 < (l0_8.length : Int)
        ·
         rw [if_pos c41] at H
         have c41b0 : decide (x56_3 < (l0_8.length : Int)) = true := decide_eq_true c41
         clear c41
         by_cases c42 : 0 ≤ x56_3
         ·
          rw [if_pos c42] at H
          have c42b0 : decide (0 ≤ x56_3) = true := decide_eq_true c42
          clear c42
          by_cases c43 : x56_3 < (l0_8.length : Int)
          ·
           rw [if_pos c43] at H
           have c43b0 : decide (x56_3 < (l0_8.length : Int)) = true := decide_eq_true c43
           clear c43
           obtain ⟨y211, hy211⟩ : ∃ y_ : List Int, y_ = (([(rd_T71 l0_8 x56_3).f0, (rd_T71 l0_8 x56_3).f1, (rd_T71 l0_8 x56_3).f3] : List Int)) := ⟨_, rfl⟩
           replace H : ((course_every_at_length.f k3 y211).bind fun t214 => (if t214 = true then (if (wrap64 (((rd_T71 l0_8 x56_3).f1) + ((rd_T71 l0_8 x56_3).f3))) > ((rd_T71 l0_8 x56_3).f0) then (some 12) else ((course_every_at_gram.f k3 (([(rd_T71 l0_8 x56_3).f2, (rd_T71 l0_8 x56_3).f4] : List Int))).bind fun t218 => (if t218 = true then (course_CheckSheet.l0 k3 l0_8 (l0_8.length : Int) (wrap64 (x56_3 + 1))) else (some 12)))) else (some 12))) = some r := by first | (rw [hy211]; with_reducible exact H) | (have H2_ := (Option.bind_some _ _).symm.trans H; rw [hy211]; with_reducible exact H2_) | (have H2_ := (Option.bind_some _ _).symm.trans H; with_reducible exact H2_) | with_reducible exact H | (rw [hy211]; exact H) | exact H
           have Ny211 := Aside0.mk (hy211)
           clear hy211
           replace H := Option.bind_eq_some_iff.mp H
           obtain ⟨t214, A440, H⟩ := H
           have A44 := Aside0.mk (A440)
           clear A440
           by_cases c45 : t214 = true
           ·
            subst c45
            rw [if_pos rfl] at H
            by_cases c46 : (wrap64 (((rd_T71 l0_8 x56_3).f1) + ((rd_T71 l0_8 x56_3).f3))) > ((rd_T71 l0_8 x56_3).f0)
            ·
             rw [if_pos c46] at H
             have c46b0 : decide (((rd_T71 l0_8 x56_3).f0) < (wrap64 (((rd_T71 l0_8 x56_3).f1) + ((rd_T71 l0_8 x56_3).f3)))) = true := decide_eq_true c46
             clear c46
             obtain rfl := Option.some.inj H
             have p209 : 0 ≤ (x56_3 : Int) := of_decide_eq_true (by first | (with_reducible assumption) | assumption)
             have q209 : x56_3 < (l0_8.length : Int) := of_decide_eq_true (by first | (with_reducible assumption) | assumption)
             obtain ⟨ad209, e209, hx209_0, hx209_1, hx209_2, hx209_3, hx209_4⟩ := at_T71 HR0_8.out x56_3 p209 q209
             cases e209
             replace hx209_0 := cB HB hx209_0
             replace hx209_1 := cB HB hx209_1
             replace hx209_2 := cB HB hx209_2
             replace hx209_3 := cB HB hx209_3
             replace hx209_4 := cB HB hx209_4
             replace p209 := eq_true p209
             replace q209 := eq_true q209
             go_wp2_with (first | ((with_reducible refine gate_dst (N := 5) rfl ?_); (try (refine gate_guard (by rfl) ?_; dsimp only)); refine bxE 5 71 #[.int .i64 0, .int .i64 0, .int .i64 0, .int .i64 0, .int .i64 0] (by rfl) (by rfl) (by first | (go_simp; done) | (go_simp; rfl)) ?_; intro gb210 hg w47 hbox hb; have BK210 := Bk.mk (hbox); have GE210 := eB w hg; have NB199_210 := nB gb199 hg; replace BK199 := kB gb199 hb; replace HB := bS w hb; clear hb hbox hg; obtain ⟨hnc48, hnb48⟩ := nn NB199_210; obtain ⟨hcz49_0, hcz49_1, hcz49_2, hcz49_3, hcz49_4, hfz49_0, hfz49_1, hfz49_2, hfz49_3, hfz49_4⟩ := cz5 BK210) | ((with_reducible refine gate_dst (N := 66) rfl ?_); (try (refine gate_guard (by rfl) ?_; dsimp only)); refine Kd.R_lit (Kd.int .i64) _ 3 ?hg (N := 66) ?hd (xs := ([(rd_T71 l0_8 x56_3).f0, (rd_T71 l0_8 x56_3).f1, (rd_T71 l0_8 x56_3).f3] : List Int)) (inner := [.int .i64 ((rd_T71 l0_8 x56_3).f0), .int .i64 ((rd_T71 l0_8 x56_3).f1), .int .i64 ((rd_T71 l0_8 x56_3).f3)]) (ok := fun _ => True) (okp := fun _ => True) ?hr ?hp (fun _ hk => hk) trivial (Below.refl _ _) (Nat.le_refl _) (by simp) ?_; (case hd => rfl); (case hg => rfl); (case hr => first | (go_simp; done) | (go_simp; rfl)); (case hp => exact (Reps.one (show Kd.M (Kd.int .i64) _ _ _ ((rd_T71 l0_8 x56_3).f0) [.int .i64 ((rd_T71 l0_8 x56_3).f0)] from rfl) (Reps.one (show Kd.M (Kd.int .i64) _ _ _ ((rd_T71 l0_8 x56_3).f1) [.int .i64 ((rd_T71 l0_8 x56_3).f1)] from rfl) (Reps.one (show Kd.M (Kd.int .i64) _ _ _ ((rd_T71 l0_8 x56_3).f3) [.int .i64 ((rd_T71 l0_8 x56_3).f3)] from rfl) (Reps.none _ _))))); intro v212 w50 ho51 hb hg_ hnew_; clear hg_ hnew_; (first | rw [← Ny211.out] at ho51 | (simp only [Int.reduceToNat] at ho51; rw [← Ny211.out] at ho51)); have n0_ := Aside0.mk (Kd.R_lower ho51 (bz w)); replace BK199 := kB gb199 hb; replace BK210 := kBo gb210 (.cells #[.int .i64 ((rd_T71 l0_8 x56_3).f0), .int .i64 ((rd_T71 l0_8 x56_3).f1), .int .i64 ((rd_T71 l0_8 x56_3).f2), .int .i64 ((rd_T71 l0_8 x56_3).f3), .int .i64 ((rd_T71 l0_8 x56_3).f4)] 71 (0, 0)) hb (by rfl); replace HB := bS w hb; have HO213 := n0_; clear n0_ hb ho51; obtain ⟨Ao52, co52, eo52⟩ := Kd.R_slice HO213.out; subst eo52) | ((with_reducible refine gate_callee (f := 90) rfl ?_); refine goesLM (some 67) rfl rfl Tryd.func90 (by kernel_rfl) rfl #[.func (.func 93) #[] #[], .slice Ao52 y211.length co52] rfl (by rfl) ?_; (with_reducible refine (course_every_at_length.calls k3  _ _ y211 true _ ?side1 ?side2 A44.out).mono ?_); (case side1 => exact cP (Kd.R_reads' HO213.out).2.2); (case side2 => exact (Kd.R_reads' HO213.out).2.1); rintro e w' ⟨rfl, ⟨nd, rfl⟩⟩; refine ⟨_, rfl, ?_⟩; obtain ⟨hcz53_0, hcz53_1, hcz53_2, hcz53_3, hcz53_4, hfz53_0, hfz53_1, hfz53_2, hfz53_3, hfz53_4⟩ := cz5 BK210))
             go_ret
             exact ⟨by first | rfl | (simp [errW_none, errW_some] <;> rfl) | (simp [*, errW_none, errW_some] <;> rfl), bw w⟩
            ·
             rw [if_neg c46] at H
             have c46b0 : decide (((rd_T71 l0_8 x56_3).f0) < (wrap64 (((rd_T71 l0_8 x56_3).f1) + ((rd_T71 l0_8 x56_3).f3)))) = false := decide_eq_false c46
             clear c46
             obtain ⟨y215, hy215⟩ : ∃ y_ : List Int, y_ = (([(rd_T71 l0_8 x56_3).f2, (rd_T71 l0_8 x56_3).f4] : List Int)) := ⟨_, rfl⟩
             replace H : ((course_every_at_gram.f k3 y215).bind fun t218 => (if t218 = true then (course_CheckSheet.l0 k3 l0_8 (l0_8.length : Int) (wrap64 (x56_3 + 1))) else (some 12))) = some r := by first | (rw [hy215]; with_reducible exact H) | (have H2_ := (Option.bind_some _ _).symm.trans H; rw [hy215]; with_reducible exact H2_) | (have H2_ := (Option.bind_some _ _).symm.trans H; with_reducible exact H2_) | with_reducible exact H | (rw [hy215]; exact H) | exact H
             have Ny215 := Aside0.mk (hy215)
             clear hy215
             replace H := Option.bind_eq_some_iff.mp H
             obtain ⟨t218, A540, H⟩ := H
             have A54 := Aside0.mk (A540)
             clear A540
             by_cases c55 : t218 = true
             ·
              subst c55
              rw [if_pos rfl] at H
              have H' := Aside0.mk H
              clear H
              have p209 : 0 ≤ (x56_3 : Int) := of_decide_eq_true (by first | (with_reducible assumption) | assumption)
              have q209 : x56_3 < (l0_8.length : Int) := of_decide_eq_true (by first | (with_reducible assumption) | assumption)
              obtain ⟨ad209, e209, hx209_0, hx209_1, hx209_2, hx209_3, hx209_4⟩ := at_T71 HR0_8.out x56_3 p209 q209
              cases e209
              replace hx209_0 := cB HB hx209_0
              replace hx209_1 := cB HB hx209_1
              replace hx209_2 := cB HB hx209_2
              replace hx209_3 := cB HB hx209_3
              replace hx209_4 := cB HB hx209_4
              replace p209 := eq_true p209
              replace q209 := eq_true q209
              go_wp2_with (first | ((with_reducible refine gate_dst (N := 5) rfl ?_); (try (refine gate_guard (by rfl) ?_; dsimp only)); refine bxE 5 71 #[.int .i64 0, .int .i64 0, .int .i64 0, .int .i64 0, .int .i64 0] (by rfl) (by rfl) (by first | (go_simp; done) | (go_simp; rfl)) ?_; intro gb210 hg w56 hbox hb; have BK210 := Bk.mk (hbox); have GE210 := eB w hg; have NB199_210 := nB gb199 hg; replace BK199 := kB gb199 hb; replace HB := bS w hb; clear hb hbox hg; obtain ⟨hnc57, hnb57⟩ := nn NB199_210; obtain ⟨hcz58_0, hcz58_1, hcz58_2, hcz58_3, hcz58_4, hfz58_0, hfz58_1, hfz58_2, hfz58_3, hfz58_4⟩ := cz5 BK210) | ((with_reducible refine gate_dst (N := 66) rfl ?_); (try (refine gate_guard (by rfl) ?_; dsimp only)); refine Kd.R_lit (Kd.int .i64) _ 3 ?hg (N := 66) ?hd (xs := ([(rd_T71 l0_8 x56_3).f0, (rd_T71 l0_8 x56_3).f1, (rd_T71 l0_8 x56_3).f3] : List Int)) (inner := [.int .i64 ((rd_T71 l0_8 x56_3).f0), .int .i64 ((rd_T71 l0_8 x56_3).f1), .int .i64 ((rd_T71 l0_8 x56_3).f3)]) (ok := fun _ => True) (okp := fun _ => True) ?hr ?hp (fun _ hk => hk) trivial (Below.refl _ _) (Nat.le_refl _) (by simp) ?_; (case hd => rfl); (case hg => rfl); (case hr => first | (go_simp; done) | (go_simp; rfl)); (case hp => exact (Reps.one (show Kd.M (Kd.int .i64) _ _ _ ((rd_T71 l0_8 x56_3).f0) [.int .i64 ((rd_T71 l0_8 x56_3).f0)] from rfl) (Reps.one (show Kd.M (Kd.int .i64) _ _ _ ((rd_T71 l0_8 x56_3).f1) [.int .i64 ((rd_T71 l0_8 x56_3).f1)] from rfl) (Reps.one (show Kd.M (Kd.int .i64) _ _ _ ((rd_T71 l0_8 x56_3).f3) [.int .i64 ((rd_T71 l0_8 x56_3).f3)] from rfl) (Reps.none _ _))))); intro v212 w59 ho60 hb hg_ hnew_; clear hg_ hnew_; (first | rw [← Ny211.out] at ho60 | (simp only [Int.reduceToNat] at ho60; rw [← Ny211.out] at ho60)); have n0_ := Aside0.mk (Kd.R_lower ho60 (bz w)); replace BK199 := kB gb199 hb; replace BK210 := kBo gb210 (.cells #[.int .i64 ((rd_T71 l0_8 x56_3).f0), .int .i64 ((rd_T71 l0_8 x56_3).f1), .int .i64 ((rd_T71 l0_8 x56_3).f2), .int .i64 ((rd_T71 l0_8 x56_3).f3), .int .i64 ((rd_T71 l0_8 x56_3).f4)] 71 (0, 0)) hb (by rfl); replace HB := bS w hb; have HO213 := n0_; clear n0_ hb ho60; obtain ⟨Ao61, co61, eo61⟩ := Kd.R_slice HO213.out; subst eo61) | ((with_reducible refine gate_callee (f := 90) rfl ?_); refine goesLM (some 67) rfl rfl Tryd.func90 (by kernel_rfl) rfl #[.func (.func 93) #[] #[], .slice Ao61 y211.length co61] rfl (by rfl) ?_; (with_reducible refine (course_every_at_length.calls k3  _ _ y211 true _ ?side1 ?side2 A44.out).mono ?_); (case side1 => exact cP (Kd.R_reads' HO213.out).2.2); (case side2 => exact (Kd.R_reads' HO213.out).2.1); rintro e w' ⟨rfl, ⟨nd, rfl⟩⟩; refine ⟨_, rfl, ?_⟩; obtain ⟨hcz62_0, hcz62_1, hcz62_2, hcz62_3, hcz62_4, hfz62_0, hfz62_1, hfz62_2, hfz62_3, hfz62_4⟩ := cz5 BK210) | ((with_reducible refine gate_dst (N := 84) rfl ?_); (try (refine gate_guard (by rfl) ?_; dsimp only)); refine Kd.R_lit (Kd.int .i64) _ 3 ?hg (N := 84) ?hd (xs := ([(rd_T71 l0_8 x56_3).f2, (rd_T71 l0_8 x56_3).f4] : List Int)) (inner := [.int .i64 ((rd_T71 l0_8 x56_3).f2), .int .i64 ((rd_T71 l0_8 x56_3).f4)]) (ok := fun _ => True) (okp := fun _ => True) ?hr ?hp (fun _ hk => hk) trivial (Below.refl _ _) (Nat.le_refl _) (by simp) ?_; (case hd => rfl); (case hg => rfl); (case hr => first | (go_simp; done) | (go_simp; rfl)); (case hp => exact (Reps.one (show Kd.M (Kd.int .i64) _ _ _ ((rd_T71 l0_8 x56_3).f2) [.int .i64 ((rd_T71 l0_8 x56_3).f2)] from rfl) (Reps.one (show Kd.M (Kd.int .i64) _ _ _ ((rd_T71 l0_8 x56_3).f4) [.int .i64 ((rd_T71 l0_8 x56_3).f4)] from rfl) (Reps.none _ _)))); intro v216 w63 ho64 hb hg_ hnew_; clear hg_ hnew_; (first | rw [← Ny215.out] at ho64 | (simp only [Int.reduceToNat] at ho64; rw [← Ny215.out] at ho64)); have n0_ := Aside0.mk (Kd.R_elder' (by (with_reducible repeat (first | apply Kd.R_alloc | apply Kd.R_drewN | apply Kd.R_drew)); exact HO213.out) (Kd.R_base ho64) hb); have n1_ := Aside0.mk (Kd.R_lower (Kd.R_new' ho64 (Kd.R_lt (by (with_reducible repeat (first | apply Kd.R_alloc | apply Kd.R_drewN | apply Kd.R_drew)); exact HO213.out))) (bz w)); replace BK199 := kB gb199 hb; replace BK210 := kB gb210 hb; replace HB := bS w hb; clear HO213; have HO213 := n0_; have HO217 := n1_; clear n0_ n1_ hb ho64; obtain ⟨Ao65, co65, eo65⟩ := Kd.R_slice HO217.out; subst eo65) | (go_at_call 90; (with_reducible refine (course_every_at_gram.calls k3  _ _ y215 true _ ?side1 ?side2 A54.out).mono ?_); (case side1 => exact cP (Kd.R_reads' HO217.out).2.2); (case side2 => exact (Kd.R_reads' HO217.out).2.1); rintro e w' ⟨rfl, ⟨nd, rfl⟩⟩))
              go_roundg k3
              case measure => have := HJ1.out; have := HJ29.out; have := HK3.out; omega
              case rel => exact ⟨(wrap64 (x56_3 + 1)), (by first | rfl | (simp; done) | (simp [*]; done)), H', ⟨by have := HJ1.out; have := HJ29.out; have := HK3.out; omega⟩, inferInstance, inferInstance⟩
             ·
              replace c55 := Bool.eq_false_iff.mpr c55
              subst c55
              rw [if_neg (show ¬ (false = true) by decide)] at H
              obtain rfl := Option.some.inj H
              have p209 : 0 ≤ (x56_3 : Int) := of_decide_eq_true (by first | (with_reducible assumption) | assumption)
              have q209 : x56_3 < (l0_8.length : Int) := of_decide_eq_true (by first | (with_reducible assumption) | assumption)
              obtain ⟨ad209, e209, hx209_0, hx209_1, hx209_2, hx209_3, hx209_4⟩ := at_T71 HR0_8.out x56_3 p209 q209
              cases e209
              replace hx209_0 := cB HB hx209_0
              replace hx209_1 := cB HB hx209_1
              replace hx209_2 := cB HB hx209_2
              replace hx209_3 := cB HB hx209_3
              replace hx209_4 := cB HB hx209_4
              replace p209 := eq_true p209
              replace q209 := eq_true q209
              go_wp2_with (first | ((with_reducible refine gate_dst (N := 5) rfl ?_); (try (refine gate_guard (by rfl) ?_; dsimp only)); refine bxE 5 71 #[.int .i64 0, .int .i64 0, .int .i64 0, .int .i64 0, .int .i64 0] (by rfl) (by rfl) (by first | (go_simp; done) | (go_simp; rfl)) ?_; intro gb210 hg w66 hbox hb; have BK210 := Bk.mk (hbox); have GE210 := eB w hg; have NB199_210 := nB gb199 hg; replace BK199 := kB gb199 hb; replace HB := bS w hb; clear hb hbox hg; obtain ⟨hnc67, hnb67⟩ := nn NB199_210; obtain ⟨hcz68_0, hcz68_1, hcz68_2, hcz68_3, hcz68_4, hfz68_0, hfz68_1, hfz68_2, hfz68_3, hfz68_4⟩ := cz5 BK210) | ((with_reducible refine gate_dst (N := 66) rfl ?_); (try (refine gate_guard (by rfl) ?_; dsimp only)); refine Kd.R_lit (Kd.int .i64) _ 3 ?hg (N := 66) ?hd (xs := ([(rd_T71 l0_8 x56_3).f0, (rd_T71 l0_8 x56_3).f1, (rd_T71 l0_8 x56_3).f3] : List Int)) (inner := [.int .i64 ((rd_T71 l0_8 x56_3).f0), .int .i64 ((rd_T71 l0_8 x56_3).f1), .int .i64 ((rd_T71 l0_8 x56_3).f3)]) (ok := fun _ => True) (okp := fun _ => True) ?hr ?hp (fun _ hk => hk) trivial (Below.refl _ _) (Nat.le_refl _) (by simp) ?_; (case hd => rfl); (case hg => rfl); (case hr => first | (go_simp; done) | (go_simp; rfl)); (case hp => exact (Reps.one (show Kd.M (Kd.int .i64) _ _ _ ((rd_T71 l0_8 x56_3).f0) [.int .i64 ((rd_T71 l0_8 x56_3).f0)] from rfl) (Reps.one (show Kd.M (Kd.int .i64) _ _ _ ((rd_T71 l0_8 x56_3).f1) [.int .i64 ((rd_T71 l0_8 x56_3).f1)] from rfl) (Reps.one (show Kd.M (Kd.int .i64) _ _ _ ((rd_T71 l0_8 x56_3).f3) [.int .i64 ((rd_T71 l0_8 x56_3).f3)] from rfl) (Reps.none _ _))))); intro v212 w69 ho70 hb hg_ hnew_; clear hg_ hnew_; (first | rw [← Ny211.out] at ho70 | (simp only [Int.reduceToNat] at ho70; rw [← Ny211.out] at ho70)); have n0_ := Aside0.mk (Kd.R_lower ho70 (bz w)); replace BK199 := kB gb199 hb; replace BK210 := kBo gb210 (.cells #[.int .i64 ((rd_T71 l0_8 x56_3).f0), .int .i64 ((rd_T71 l0_8 x56_3).f1), .int .i64 ((rd_T71 l0_8 x56_3).f2), .int .i64 ((rd_T71 l0_8 x56_3).f3), .int .i64 ((rd_T71 l0_8 x56_3).f4)] 71 (0, 0)) hb (by rfl); replace HB := bS w hb; have HO213 := n0_; clear n0_ hb ho70; obtain ⟨Ao71, co71, eo71⟩ := Kd.R_slice HO213.out; subst eo71) | ((with_reducible refine gate_callee (f := 90) rfl ?_); refine goesLM (some 67) rfl rfl Tryd.func90 (by kernel_rfl) rfl #[.func (.func 93) #[] #[], .slice Ao71 y211.length co71] rfl (by rfl) ?_; (with_reducible refine (course_every_at_length.calls k3  _ _ y211 true _ ?side1 ?side2 A44.out).mono ?_); (case side1 => exact cP (Kd.R_reads' HO213.out).2.2); (case side2 => exact (Kd.R_reads' HO213.out).2.1); rintro e w' ⟨rfl, ⟨nd, rfl⟩⟩; refine ⟨_, rfl, ?_⟩; obtain ⟨hcz72_0, hcz72_1, hcz72_2, hcz72_3, hcz72_4, hfz72_0, hfz72_1, hfz72_2, hfz72_3, hfz72_4⟩ := cz5 BK210) | ((with_reducible refine gate_dst (N := 84) rfl ?_); (try (refine gate_guard (by rfl) ?_; dsimp only)); refine Kd.R_lit (Kd.int .i64) _ 3 ?hg (N := 84) ?hd (xs := ([(rd_T71 l0_8 x56_3).f2, (rd_T71 l0_8 x56_3).f4] : List Int)) (inner := [.int .i64 ((rd_T71 l0_8 x56_3).f2), .int .i64 ((rd_T71 l0_8 x56_3).f4)]) (ok := fun _ => True) (okp := fun _ => True) ?hr ?hp (fun _ hk => hk) trivial (Below.refl _ _) (Nat.le_refl _) (by simp) ?_; (case hd => rfl); (case hg => rfl); (case hr => first | (go_simp; done) | (go_simp; rfl)); (case hp => exact (Reps.one (show Kd.M (Kd.int .i64) _ _ _ ((rd_T71 l0_8 x56_3).f2) [.int .i64 ((rd_T71 l0_8 x56_3).f2)] from rfl) (Reps.one (show Kd.M (Kd.int .i64) _ _ _ ((rd_T71 l0_8 x56_3).f4) [.int .i64 ((rd_T71 l0_8 x56_3).f4)] from rfl) (Reps.none _ _)))); intro v216 w73 ho74 hb hg_ hnew_; clear hg_ hnew_; (first | rw [← Ny215.out] at ho74 | (simp only [Int.reduceToNat] at ho74; rw [← Ny215.out] at ho74)); have n0_ := Aside0.mk (Kd.R_elder' (by (with_reducible repeat (first | apply Kd.R_alloc | apply Kd.R_drewN | apply Kd.R_drew)); exact HO213.out) (Kd.R_base ho74) hb); have n1_ := Aside0.mk (Kd.R_lower (Kd.R_new' ho74 (Kd.R_lt (by (with_reducible repeat (first | apply Kd.R_alloc | apply Kd.R_drewN | apply Kd.R_drew)); exact HO213.out))) (bz w)); replace BK199 := kB gb199 hb; replace BK210 := kB gb210 hb; replace HB := bS w hb; clear HO213; have HO213 := n0_; have HO217 := n1_; clear n0_ n1_ hb ho74; obtain ⟨Ao75, co75, eo75⟩ := Kd.R_slice HO217.out; subst eo75) | (go_at_call 90; (with_reducible refine (course_every_at_gram.calls k3  _ _ y215 false _ ?side1 ?side2 A54.out).mono ?_); (case side1 => exact cP (Kd.R_reads' HO217.out).2.2); (case side2 => exact (Kd.R_reads' HO217.out).2.1); rintro e w' ⟨rfl, ⟨nd, rfl⟩⟩))
              go_ret
              exact ⟨by first | rfl | (simp [errW_none, errW_some] <;> rfl) | (simp [*, errW_none, errW_some] <;> rfl), bw w⟩
           ·
            replace c45 := Bool.eq_false_iff.mpr c45
            subst c45
            rw [if_neg (show ¬ (false = true) by decide)] at H
            obtain rfl := Option.some.inj H
            have p209 : 0 ≤ (x56_3 : Int) := of_decide_eq_true (by first | (with_reducible assumption) | assumption)
            have q209 : x56_3 < (l0_8.length : Int) := of_decide_eq_true (by first | (with_reducible assumption) | assumption)
            obtain ⟨ad209, e209, hx209_0, hx209_1, hx209_2, hx209_3, hx209_4⟩ := at_T71 HR0_8.out x56_3 p209 q209
            cases e209
            replace hx209_0 := cB HB hx209_0
            replace hx209_1 := cB HB hx209_1
            replace hx209_2 := cB HB hx209_2
            replace hx209_3 := cB HB hx209_3
            replace hx209_4 := cB HB hx209_4
            replace p209 := eq_true p209
            replace q209 := eq_true q209
            go_wp2_with (first | ((with_reducible refine gate_dst (N := 5) rfl ?_); (try (refine gate_guard (by rfl) ?_; dsimp only)); refine bxE 5 71 #[.int .i64 0, .int .i64 0, .int .i64 0, .int .i64 0, .int .i64 0] (by rfl) (by rfl) (by first | (go_simp; done) | (go_simp; rfl)) ?_; intro gb210 hg w76 hbox hb; have BK210 := Bk.mk (hbox); have GE210 := eB w hg; have NB199_210 := nB gb199 hg; replace BK199 := kB gb199 hb; replace HB := bS w hb; clear hb hbox hg; obtain ⟨hnc77, hnb77⟩ := nn NB199_210; obtain ⟨hcz78_0, hcz78_1, hcz78_2, hcz78_3, hcz78_4, hfz78_0, hfz78_1, hfz78_2, hfz78_3, hfz78_4⟩ := cz5 BK210) | ((with_reducible refine gate_dst (N := 66) rfl ?_); (try (refine gate_guard (by rfl) ?_; dsimp only)); refine Kd.R_lit (Kd.int .i64) _ 3 ?hg (N := 66) ?hd (xs := ([(rd_T71 l0_8 x56_3).f0, (rd_T71 l0_8 x56_3).f1, (rd_T71 l0_8 x56_3).f3] : List Int)) (inner := [.int .i64 ((rd_T71 l0_8 x56_3).f0), .int .i64 ((rd_T71 l0_8 x56_3).f1), .int .i64 ((rd_T71 l0_8 x56_3).f3)]) (ok := fun _ => True) (okp := fun _ => True) ?hr ?hp (fun _ hk => hk) trivial (Below.refl _ _) (Nat.le_refl _) (by simp) ?_; (case hd => rfl); (case hg => rfl); (case hr => first | (go_simp; done) | (go_simp; rfl)); (case hp => exact (Reps.one (show Kd.M (Kd.int .i64) _ _ _ ((rd_T71 l0_8 x56_3).f0) [.int .i64 ((rd_T71 l0_8 x56_3).f0)] from rfl) (Reps.one (show Kd.M (Kd.int .i64) _ _ _ ((rd_T71 l0_8 x56_3).f1) [.int .i64 ((rd_T71 l0_8 x56_3).f1)] from rfl) (Reps.one (show Kd.M (Kd.int .i64) _ _ _ ((rd_T71 l0_8 x56_3).f3) [.int .i64 ((rd_T71 l0_8 x56_3).f3)] from rfl) (Reps.none _ _))))); intro v212 w79 ho80 hb hg_ hnew_; clear hg_ hnew_; (first | rw [← Ny211.out] at ho80 | (simp only [Int.reduceToNat] at ho80; rw [← Ny211.out] at ho80)); have n0_ := Aside0.mk (Kd.R_lower ho80 (bz w)); replace BK199 := kB gb199 hb; replace BK210 := kBo gb210 (.cells #[.int .i64 ((rd_T71 l0_8 x56_3).f0), .int .i64 ((rd_T71 l0_8 x56_3).f1), .int .i64 ((rd_T71 l0_8 x56_3).f2), .int .i64 ((rd_T71 l0_8 x56_3).f3), .int .i64 ((rd_T71 l0_8 x56_3).f4)] 71 (0, 0)) hb (by rfl); replace HB := bS w hb; have HO213 := n0_; clear n0_ hb ho80; obtain ⟨Ao81, co81, eo81⟩ := Kd.R_slice HO213.out; subst eo81) | ((with_reducible refine gate_callee (f := 90) rfl ?_); refine goesLM (some 67) rfl rfl Tryd.func90 (by kernel_rfl) rfl #[.func (.func 93) #[] #[], .slice Ao81 y211.length co81] rfl (by rfl) ?_; (with_reducible refine (course_every_at_length.calls k3  _ _ y211 false _ ?side1 ?side2 A44.out).mono ?_); (case side1 => exact cP (Kd.R_reads' HO213.out).2.2); (case side2 => exact (Kd.R_reads' HO213.out).2.1); rintro e w' ⟨rfl, ⟨nd, rfl⟩⟩; refine ⟨_, rfl, ?_⟩))
            go_ret
            exact ⟨by first | rfl | (simp [errW_none, errW_some] <;> rfl) | (simp [*, errW_none, errW_some] <;> rfl), bw w⟩
          ·
           rw [if_neg c43] at H
           exact absurd H (by simp)
         ·
          rw [if_neg c42] at H
          exact absurd H (by simp)
        ·
         rw [if_neg c41] at H
         have c41b0 : decide (x56_3 < (l0_8.length : Int)) = false := decide_eq_false c41
         clear c41
         obtain rfl := Option.some.inj H
         go_wp2
         go_ret
         exact ⟨by first | rfl | (simp [errW_none, errW_some] <;> rfl) | (simp [*, errW_none, errW_some] <;> rfl), bw w⟩
def course_sheetOf.f (k : Nat) (a0_0 : Int) (a0_1 : Int) (l0_2 : List (S26)) (a1_0 : Int) (a1_1 : Int) (a1_2 : Int) (a1_3 : Int) (a1_4 : Int) (a1_5 : Int) (a1_6 : Int) (a1_7 : Int) (l1_8 : List (S71)) (a2 : Int) : Option (Int) := (course_CheckScale.f k a0_0 a0_1 l0_2).bind fun t221 => (if t221 = 0 then ((course_CheckSheet.f k a1_0 a1_1 a1_2 a1_3 a1_4 a1_5 a1_6 a1_7 l1_8).bind fun t222 => (if t222 = 0 then (if a0_0 = a1_4 then ((course_day.f a2).bind fun t223 => (if t223 = true then (some 0) else (some 1))) else (some 1)) else (some t222))) else (some t221))
theorem course_sheetOf.mono : ∀ a0 a1 a2 a3 a4 a5 a6 a7 a8 a9 a10 a11 a12 k, LeO (course_sheetOf.f k a0 a1 a2 a3 a4 a5 a6 a7 a8 a9 a10 a11 a12) (course_sheetOf.f (k + 1) a0 a1 a2 a3 a4 a5 a6 a7 a8 a9 a10 a11 a12) := by
 intro a0 a1 a2 a3 a4 a5 a6 a7 a8 a9 a10 a11 a12 k
 unfold course_sheetOf.f
 repeat' first
   | (with_reducible exact course_CheckScale.mono _ _ _ _)
   | (with_reducible exact course_CheckSheet.mono _ _ _ _ _ _ _ _ _ _)
   | (with_reducible exact LeO.refl _)
   | (with_reducible exact LeO.none _)
   | (with_reducible refine LeO.ite ?_ ?_)
   | (with_reducible refine LeO.bind ?_ (fun _ => ?_))
   | exact course_CheckScale.mono _ _ _ _
   | exact course_CheckSheet.mono _ _ _ _ _ _ _ _ _ _
   | exact LeO.none _
   | refine LeO.ite ?_ ?_
   | refine LeO.bind ?_ (fun _ => ?_)
set_option maxHeartbeats 8000000 in
set_option maxRecDepth 100000 in
theorem course_sheetOf.calls (k : Nat) (a0_0 : Int) (a0_1 : Int) (A0_2 : Option Addr) (c0_2 : Nat) (l0_2 : List (S26)) (a1_0 : Int) (a1_1 : Int) (a1_2 : Int) (a1_3 : Int) (a1_4 : Int) (a1_5 : Int) (a1_6 : Int) (a1_7 : Int) (A1_8 : Option Addr) (c1_8 : Nat) (l1_8 : List (S71)) (a2 : Int) (r : Int) (w : World) (hr0_2 : Kd.C k26 w A0_2 l0_2.length l0_2) (hc0_2 : l0_2.length ≤ c0_2) (hr1_8 : Kd.C k71 w A1_8 l1_8.length l1_8) (hc1_8 : l1_8.length ≤ c1_8) (h : course_sheetOf.f k a0_0 a0_1 l0_2 a1_0 a1_1 a1_2 a1_3 a1_4 a1_5 a1_6 a1_7 l1_8 a2 = some r) :
  Calls Tryd.prog 133 #[.agg #[.int .i64 a0_0, .int .i64 a0_1, .slice A0_2 l0_2.length c0_2], .agg #[.int .i64 a1_0, .int .i64 a1_1, .int .i64 a1_2, .int .i64 a1_3, .int .i64 a1_4, .int .i64 a1_5, .int .i64 a1_6, .int .i64 a1_7, .slice A1_8 l1_8.length c1_8], .int .i64 a2] w fun e w' => e = .returned (.int .i64 r) ∧ Below w.heap.size w w' := by
 have hu24 := Tryd.underlying24
 have hu47 := Tryd.underlying47
 have HR0_2 := Aside0.mk (hr0_2)
 have HC0_2 := Aside0.mk (hc0_2)
 clear hr0_2 hc0_2
 have HR1_8 := Aside0.mk (hr1_8)
 have HC1_8 := Aside0.mk (hc1_8)
 clear hr1_8 hc1_8
 have HB := Bw.mk (Below.refl w.heap.size w)
 have H : ((course_CheckScale.f k a0_0 a0_1 l0_2).bind fun t221 => (if t221 = 0 then ((course_CheckSheet.f k a1_0 a1_1 a1_2 a1_3 a1_4 a1_5 a1_6 a1_7 l1_8).bind fun t222 => (if t222 = 0 then (if a0_0 = a1_4 then ((course_day.f a2).bind fun t223 => (if t223 = true then (some 0) else (some 1))) else (some 1)) else (some t222))) else (some t221))) = some r := h
 clear h
 replace H := Option.bind_eq_some_iff.mp H
 obtain ⟨t221, A40, H⟩ := H
 have A4 := Aside0.mk (A40)
 clear A40
 by_cases c5 : t221 = 0
 ·
  rw [if_pos c5] at H
  have c5b0 : (t221 == 0) = true := beq_iff_eq.mpr c5
  have c5b1 : (t221 != 0) = false := bne_eq_false_iff_eq.mpr c5
  clear c5
  replace H := Option.bind_eq_some_iff.mp H
  obtain ⟨t222, A60, H⟩ := H
  have A6 := Aside0.mk (A60)
  clear A60
  by_cases c7 : t222 = 0
  ·
   rw [if_pos c7] at H
   have c7b0 : (t222 == 0) = true := beq_iff_eq.mpr c7
   have c7b1 : (t222 != 0) = false := bne_eq_false_iff_eq.mpr c7
   clear c7
   by_cases c8 : a0_0 = a1_4
   ·
    rw [if_pos c8] at H
    have c8b0 : (a0_0 == a1_4) = true := beq_iff_eq.mpr c8
    have c8b1 : (a0_0 != a1_4) = false := bne_eq_false_iff_eq.mpr c8
    clear c8
    replace H := Option.bind_eq_some_iff.mp H
    obtain ⟨t223, A90, H⟩ := H
    have A9 := Aside0.mk (A90)
    clear A90
    by_cases c10 : t223 = true
    ·
     subst c10
     rw [if_pos rfl] at H
     obtain rfl := Option.some.inj H
     go_enter Tryd.func133, Tryd.ntmps133
     go_wp2_with (first | ((with_reducible refine gate_dst (N := 3) rfl ?_); refine bxE 3 24 #[.int .i64 a0_0, .int .i64 a0_1, .slice A0_2 l0_2.length c0_2] (by rfl) (by rfl) (by first | (go_simp; done) | (go_simp; rfl)) ?_; intro gb219 hg w11 hbox hb; have BK219 := Bk.mk (hbox); have GE219 := eB w hg; replace HB := bS w hb; clear hb hbox hg) | ((with_reducible refine gate_dst (N := 4) rfl ?_); refine bxE 4 47 #[.int .i64 a1_0, .int .i64 a1_1, .int .i64 a1_2, .int .i64 a1_3, .int .i64 a1_4, .int .i64 a1_5, .int .i64 a1_6, .int .i64 a1_7, .slice A1_8 l1_8.length c1_8] (by rfl) (by rfl) (by first | (go_simp; done) | (go_simp; rfl)) ?_; intro gb220 hg w12 hbox hb; have BK220 := Bk.mk (hbox); have GE220 := eB w hg; replace BK219 := kB gb219 hb; replace HB := bS w hb; clear hb hbox hg; obtain ⟨hcz14_0, hcz14_1, hcz14_2, hfz14_0, hfz14_1, hfz14_2⟩ := cz3 BK219) | ((with_reducible refine gate_callee (f := 20) rfl ?_); refine goesLM (some 10) rfl rfl Tryd.func20 (by kernel_rfl) rfl #[.agg #[.int .i64 a0_0, .int .i64 a0_1, .slice A0_2 l0_2.length c0_2]] rfl (by rfl) ?_; (with_reducible refine (course_CheckScale.calls k a0_0 a0_1 _ _ l0_2 t221 _ ?side1 ?side2 A4.out).mono ?_); (case side1 => exact cP (Kd.C_below HR0_2.out HB.out)); (case side2 => exact HC0_2.out); rintro e w15 ⟨rfl, hb⟩; refine ⟨_, rfl, ?_⟩; replace BK219 := kB gb219 hb; replace BK220 := kB gb220 hb; replace HB := bS w hb; (try clear hb); obtain ⟨hcz16_0, hcz16_1, hcz16_2, hcz16_3, hcz16_4, hcz16_5, hcz16_6, hcz16_7, hcz16_8, hfz16_0, hfz16_1, hfz16_2, hfz16_3, hfz16_4, hfz16_5, hfz16_6, hfz16_7, hfz16_8⟩ := cz9 BK220) | ((with_reducible refine gate_callee (f := 31) rfl ?_); refine goesLM (some 15) rfl rfl Tryd.func31 (by kernel_rfl) rfl #[.agg #[.int .i64 a1_0, .int .i64 a1_1, .int .i64 a1_2, .int .i64 a1_3, .int .i64 a1_4, .int .i64 a1_5, .int .i64 a1_6, .int .i64 a1_7, .slice A1_8 l1_8.length c1_8]] rfl (by rfl) ?_; (with_reducible refine (course_CheckSheet.calls k a1_0 a1_1 a1_2 a1_3 a1_4 a1_5 a1_6 a1_7 _ _ l1_8 t222 _ ?side1 ?side2 A6.out).mono ?_); (case side1 => exact cP (Kd.C_below HR1_8.out HB.out)); (case side2 => exact HC1_8.out); rintro e w17 ⟨rfl, hb⟩; refine ⟨_, rfl, ?_⟩; replace BK219 := kB gb219 hb; replace BK220 := kB gb220 hb; replace HB := bS w hb; (try clear hb); obtain ⟨hcz18_0, hcz18_1, hcz18_2, hfz18_0, hfz18_1, hfz18_2⟩ := cz3 BK219; obtain ⟨hcz19_0, hcz19_1, hcz19_2, hcz19_3, hcz19_4, hcz19_5, hcz19_6, hcz19_7, hcz19_8, hfz19_0, hfz19_1, hfz19_2, hfz19_3, hfz19_4, hfz19_5, hfz19_6, hfz19_7, hfz19_8⟩ := cz9 BK220) | (go_at_call 74; (with_reducible refine (course_day.calls a2 true _ A9.out).mono ?_); rintro e w' ⟨rfl, ⟨nd, rfl⟩⟩))
     go_ret
     exact ⟨by first | rfl | (simp [errW_none, errW_some] <;> rfl) | (simp [*, errW_none, errW_some] <;> rfl), bw w⟩
    ·
     replace c10 := Bool.eq_false_iff.mpr c10
     subst c10
     rw [if_neg (show ¬ (false = true) by decide)] at H
     obtain rfl := Option.some.inj H
     go_enter Tryd.func133, Tryd.ntmps133
     go_wp2_with (first | ((with_reducible refine gate_dst (N := 3) rfl ?_); refine bxE 3 24 #[.int .i64 a0_0, .int .i64 a0_1, .slice A0_2 l0_2.length c0_2] (by rfl) (by rfl) (by first | (go_simp; done) | (go_simp; rfl)) ?_; intro gb219 hg w20 hbox hb; have BK219 := Bk.mk (hbox); have GE219 := eB w hg; replace HB := bS w hb; clear hb hbox hg) | ((with_reducible refine gate_dst (N := 4) rfl ?_); refine bxE 4 47 #[.int .i64 a1_0, .int .i64 a1_1, .int .i64 a1_2, .int .i64 a1_3, .int .i64 a1_4, .int .i64 a1_5, .int .i64 a1_6, .int .i64 a1_7, .slice A1_8 l1_8.length c1_8] (by rfl) (by rfl) (by first | (go_simp; done) | (go_simp; rfl)) ?_; intro gb220 hg w21 hbox hb; have BK220 := Bk.mk (hbox); have GE220 := eB w hg; replace BK219 := kB gb219 hb; replace HB := bS w hb; clear hb hbox hg; obtain ⟨hcz23_0, hcz23_1, hcz23_2, hfz23_0, hfz23_1, hfz23_2⟩ := cz3 BK219) | ((with_reducible refine gate_callee (f := 20) rfl ?_); refine goesLM (some 10) rfl rfl Tryd.func20 (by kernel_rfl) rfl #[.agg #[.int .i64 a0_0, .int .i64 a0_1, .slice A0_2 l0_2.length c0_2]] rfl (by rfl) ?_; (with_reducible refine (course_CheckScale.calls k a0_0 a0_1 _ _ l0_2 t221 _ ?side1 ?side2 A4.out).mono ?_); (case side1 => exact cP (Kd.C_below HR0_2.out HB.out)); (case side2 => exact HC0_2.out); rintro e w24 ⟨rfl, hb⟩; refine ⟨_, rfl, ?_⟩; replace BK219 := kB gb219 hb; replace BK220 := kB gb220 hb; replace HB := bS w hb; (try clear hb); obtain ⟨hcz25_0, hcz25_1, hcz25_2, hcz25_3, hcz25_4, hcz25_5, hcz25_6, hcz25_7, hcz25_8, hfz25_0, hfz25_1, hfz25_2, hfz25_3, hfz25_4, hfz25_5, hfz25_6, hfz25_7, hfz25_8⟩ := cz9 BK220) | ((with_reducible refine gate_callee (f := 31) rfl ?_); refine goesLM (some 15) rfl rfl Tryd.func31 (by kernel_rfl) rfl #[.agg #[.int .i64 a1_0, .int .i64 a1_1, .int .i64 a1_2, .int .i64 a1_3, .int .i64 a1_4, .int .i64 a1_5, .int .i64 a1_6, .int .i64 a1_7, .slice A1_8 l1_8.length c1_8]] rfl (by rfl) ?_; (with_reducible refine (course_CheckSheet.calls k a1_0 a1_1 a1_2 a1_3 a1_4 a1_5 a1_6 a1_7 _ _ l1_8 t222 _ ?side1 ?side2 A6.out).mono ?_); (case side1 => exact cP (Kd.C_below HR1_8.out HB.out)); (case side2 => exact HC1_8.out); rintro e w26 ⟨rfl, hb⟩; refine ⟨_, rfl, ?_⟩; replace BK219 := kB gb219 hb; replace BK220 := kB gb220 hb; replace HB := bS w hb; (try clear hb); obtain ⟨hcz27_0, hcz27_1, hcz27_2, hfz27_0, hfz27_1, hfz27_2⟩ := cz3 BK219; obtain ⟨hcz28_0, hcz28_1, hcz28_2, hcz28_3, hcz28_4, hcz28_5, hcz28_6, hcz28_7, hcz28_8, hfz28_0, hfz28_1, hfz28_2, hfz28_3, hfz28_4, hfz28_5, hfz28_6, hfz28_7, hfz28_8⟩ := cz9 BK220) | (go_at_call 74; (with_reducible refine (course_day.calls a2 false _ A9.out).mono ?_); rintro e w' ⟨rfl, ⟨nd, rfl⟩⟩))
     go_ret
     exact ⟨by first | rfl | (simp [errW_none, errW_some] <;> rfl) | (simp [*, errW_none, errW_some] <;> rfl), bw w⟩
   ·
    rw [if_neg c8] at H
    have c8b0 : (a0_0 == a1_4) = false := beq_eq_false_iff_ne.mpr c8
    have c8b1 : (a0_0 != a1_4) = true := bne_iff_ne.mpr c8
    obtain rfl := Option.some.inj H
    go_enter Tryd.func133, Tryd.ntmps133
    go_wp2_with (first | ((with_reducible refine gate_dst (N := 3) rfl ?_); refine bxE 3 24 #[.int .i64 a0_0, .int .i64 a0_1, .slice A0_2 l0_2.length c0_2] (by rfl) (by rfl) (by first | (go_simp; done) | (go_simp; rfl)) ?_; intro gb219 hg w29 hbox hb; have BK219 := Bk.mk (hbox); have GE219 := eB w hg; replace HB := bS w hb; clear hb hbox hg) | ((with_reducible refine gate_dst (N := 4) rfl ?_); refine bxE 4 47 #[.int .i64 a1_0, .int .i64 a1_1, .int .i64 a1_2, .int .i64 a1_3, .int .i64 a1_4, .int .i64 a1_5, .int .i64 a1_6, .int .i64 a1_7, .slice A1_8 l1_8.length c1_8] (by rfl) (by rfl) (by first | (go_simp; done) | (go_simp; rfl)) ?_; intro gb220 hg w30 hbox hb; have BK220 := Bk.mk (hbox); have GE220 := eB w hg; replace BK219 := kB gb219 hb; replace HB := bS w hb; clear hb hbox hg; obtain ⟨hcz32_0, hcz32_1, hcz32_2, hfz32_0, hfz32_1, hfz32_2⟩ := cz3 BK219) | ((with_reducible refine gate_callee (f := 20) rfl ?_); refine goesLM (some 10) rfl rfl Tryd.func20 (by kernel_rfl) rfl #[.agg #[.int .i64 a0_0, .int .i64 a0_1, .slice A0_2 l0_2.length c0_2]] rfl (by rfl) ?_; (with_reducible refine (course_CheckScale.calls k a0_0 a0_1 _ _ l0_2 t221 _ ?side1 ?side2 A4.out).mono ?_); (case side1 => exact cP (Kd.C_below HR0_2.out HB.out)); (case side2 => exact HC0_2.out); rintro e w33 ⟨rfl, hb⟩; refine ⟨_, rfl, ?_⟩; replace BK219 := kB gb219 hb; replace BK220 := kB gb220 hb; replace HB := bS w hb; (try clear hb); obtain ⟨hcz34_0, hcz34_1, hcz34_2, hcz34_3, hcz34_4, hcz34_5, hcz34_6, hcz34_7, hcz34_8, hfz34_0, hfz34_1, hfz34_2, hfz34_3, hfz34_4, hfz34_5, hfz34_6, hfz34_7, hfz34_8⟩ := cz9 BK220) | ((with_reducible refine gate_callee (f := 31) rfl ?_); refine goesLM (some 15) rfl rfl Tryd.func31 (by kernel_rfl) rfl #[.agg #[.int .i64 a1_0, .int .i64 a1_1, .int .i64 a1_2, .int .i64 a1_3, .int .i64 a1_4, .int .i64 a1_5, .int .i64 a1_6, .int .i64 a1_7, .slice A1_8 l1_8.length c1_8]] rfl (by rfl) ?_; (with_reducible refine (course_CheckSheet.calls k a1_0 a1_1 a1_2 a1_3 a1_4 a1_5 a1_6 a1_7 _ _ l1_8 t222 _ ?side1 ?side2 A6.out).mono ?_); (case side1 => exact cP (Kd.C_below HR1_8.out HB.out)); (case side2 => exact HC1_8.out); rintro e w35 ⟨rfl, hb⟩; refine ⟨_, rfl, ?_⟩; replace BK219 := kB gb219 hb; replace BK220 := kB gb220 hb; replace HB := bS w hb; (try clear hb); obtain ⟨hcz36_0, hcz36_1, hcz36_2, hfz36_0, hfz36_1, hfz36_2⟩ := cz3 BK219; obtain ⟨hcz37_0, hcz37_1, hcz37_2, hcz37_3, hcz37_4, hcz37_5, hcz37_6, hcz37_7, hcz37_8, hfz37_0, hfz37_1, hfz37_2, hfz37_3, hfz37_4, hfz37_5, hfz37_6, hfz37_7, hfz37_8⟩ := cz9 BK220))
    go_ret
    exact ⟨by first | rfl | (simp [errW_none, errW_some] <;> rfl) | (simp [*, errW_none, errW_some] <;> rfl), bw w⟩
  ·
   rw [if_neg c7] at H
   have c7b0 : (t222 == 0) = false := beq_eq_false_iff_ne.mpr c7
   have c7b1 : (t222 != 0) = true := bne_iff_ne.mpr c7
   obtain rfl := Option.some.inj H
   go_enter Tryd.func133, Tryd.ntmps133
   go_wp2_with (first | ((with_reducible refine gate_dst (N := 3) rfl ?_); refine bxE 3 24 #[.int .i64 a0_0, .int .i64 a0_1, .slice A0_2 l0_2.length c0_2] (by rfl) (by rfl) (by first | (go_simp; done) | (go_simp; rfl)) ?_; intro gb219 hg w38 hbox hb; have BK219 := Bk.mk (hbox); have GE219 := eB w hg; replace HB := bS w hb; clear hb hbox hg) | ((with_reducible refine gate_dst (N := 4) rfl ?_); refine bxE 4 47 #[.int .i64 a1_0, .int .i64 a1_1, .int .i64 a1_2, .int .i64 a1_3, .int .i64 a1_4, .int .i64 a1_5, .int .i64 a1_6, .int .i64 a1_7, .slice A1_8 l1_8.length c1_8] (by rfl) (by rfl) (by first | (go_simp; done) | (go_simp; rfl)) ?_; intro gb220 hg w39 hbox hb; have BK220 := Bk.mk (hbox); have GE220 := eB w hg; replace BK219 := kB gb219 hb; replace HB := bS w hb; clear hb hbox hg; obtain ⟨hcz41_0, hcz41_1, hcz41_2, hfz41_0, hfz41_1, hfz41_2⟩ := cz3 BK219) | ((with_reducible refine gate_callee (f := 20) rfl ?_); refine goesLM (some 10) rfl rfl Tryd.func20 (by kernel_rfl) rfl #[.agg #[.int .i64 a0_0, .int .i64 a0_1, .slice A0_2 l0_2.length c0_2]] rfl (by rfl) ?_; (with_reducible refine (course_CheckScale.calls k a0_0 a0_1 _ _ l0_2 t221 _ ?side1 ?side2 A4.out).mono ?_); (case side1 => exact cP (Kd.C_below HR0_2.out HB.out)); (case side2 => exact HC0_2.out); rintro e w42 ⟨rfl, hb⟩; refine ⟨_, rfl, ?_⟩; replace BK219 := kB gb219 hb; replace BK220 := kB gb220 hb; replace HB := bS w hb; (try clear hb); obtain ⟨hcz43_0, hcz43_1, hcz43_2, hcz43_3, hcz43_4, hcz43_5, hcz43_6, hcz43_7, hcz43_8, hfz43_0, hfz43_1, hfz43_2, hfz43_3, hfz43_4, hfz43_5, hfz43_6, hfz43_7, hfz43_8⟩ := cz9 BK220) | ((with_reducible refine gate_callee (f := 31) rfl ?_); refine goesLM (some 15) rfl rfl Tryd.func31 (by kernel_rfl) rfl #[.agg #[.int .i64 a1_0, .int .i64 a1_1, .int .i64 a1_2, .int .i64 a1_3, .int .i64 a1_4, .int .i64 a1_5, .int .i64 a1_6, .int .i64 a1_7, .slice A1_8 l1_8.length c1_8]] rfl (by rfl) ?_; (with_reducible refine (course_CheckSheet.calls k a1_0 a1_1 a1_2 a1_3 a1_4 a1_5 a1_6 a1_7 _ _ l1_8 t222 _ ?side1 ?side2 A6.out).mono ?_); (case side1 => exact cP (Kd.C_below HR1_8.out HB.out)); (case side2 => exact HC1_8.out); rintro e w44 ⟨rfl, hb⟩; refine ⟨_, rfl, ?_⟩; replace BK219 := kB gb219 hb; replace BK220 := kB gb220 hb; replace HB := bS w hb; (try clear hb)))
   go_ret
   exact ⟨by first | rfl | (simp [errW_none, errW_some] <;> rfl) | (simp [*, errW_none, errW_some] <;> rfl), bw w⟩
 ·
  rw [if_neg c5] at H
  have c5b0 : (t221 == 0) = false := beq_eq_false_iff_ne.mpr c5
  have c5b1 : (t221 != 0) = true := bne_iff_ne.mpr c5
  obtain rfl := Option.some.inj H
  go_enter Tryd.func133, Tryd.ntmps133
  go_wp2_with (first | ((with_reducible refine gate_dst (N := 3) rfl ?_); refine bxE 3 24 #[.int .i64 a0_0, .int .i64 a0_1, .slice A0_2 l0_2.length c0_2] (by rfl) (by rfl) (by first | (go_simp; done) | (go_simp; rfl)) ?_; intro gb219 hg w45 hbox hb; have BK219 := Bk.mk (hbox); have GE219 := eB w hg; replace HB := bS w hb; clear hb hbox hg) | ((with_reducible refine gate_dst (N := 4) rfl ?_); refine bxE 4 47 #[.int .i64 a1_0, .int .i64 a1_1, .int .i64 a1_2, .int .i64 a1_3, .int .i64 a1_4, .int .i64 a1_5, .int .i64 a1_6, .int .i64 a1_7, .slice A1_8 l1_8.length c1_8] (by rfl) (by rfl) (by first | (go_simp; done) | (go_simp; rfl)) ?_; intro gb220 hg w46 hbox hb; have BK220 := Bk.mk (hbox); have GE220 := eB w hg; replace BK219 := kB gb219 hb; replace HB := bS w hb; clear hb hbox hg; obtain ⟨hcz48_0, hcz48_1, hcz48_2, hfz48_0, hfz48_1, hfz48_2⟩ := cz3 BK219) | ((with_reducible refine gate_callee (f := 20) rfl ?_); refine goesLM (some 10) rfl rfl Tryd.func20 (by kernel_rfl) rfl #[.agg #[.int .i64 a0_0, .int .i64 a0_1, .slice A0_2 l0_2.length c0_2]] rfl (by rfl) ?_; (with_reducible refine (course_CheckScale.calls k a0_0 a0_1 _ _ l0_2 t221 _ ?side1 ?side2 A4.out).mono ?_); (case side1 => exact cP (Kd.C_below HR0_2.out HB.out)); (case side2 => exact HC0_2.out); rintro e w49 ⟨rfl, hb⟩; refine ⟨_, rfl, ?_⟩; replace BK219 := kB gb219 hb; replace BK220 := kB gb220 hb; replace HB := bS w hb; (try clear hb)))
  go_ret
  exact ⟨by first | rfl | (simp [errW_none, errW_some] <;> rfl) | (simp [*, errW_none, errW_some] <;> rfl), bw w⟩
def course_stakeOf.f (k : Nat) (a0_0 : Int) (a0_1 : Int) (l0_2 : List (S26)) (a1_0 : Int) (a1_1 : Int) (a1_2 : Int) (a1_3 : Int) (a1_4 : Int) (a1_5 : Int) (a1_6 : Int) (a1_7 : Int) (l1_8 : List (S71)) (a2 : Int) (a3 : Int) : Option (Int) := (course_sheetOf.f k a0_0 a0_1 l0_2 a1_0 a1_1 a1_2 a1_3 a1_4 a1_5 a1_6 a1_7 l1_8 a3).bind fun t226 => (if t226 = 0 then (if a2 < 0 then (some 1) else (if a2 ≥ (l1_8.length : Int) then (some 1) else (some 0))) else (some t226))
theorem course_stakeOf.mono : ∀ a0 a1 a2 a3 a4 a5 a6 a7 a8 a9 a10 a11 a12 a13 k, LeO (course_stakeOf.f k a0 a1 a2 a3 a4 a5 a6 a7 a8 a9 a10 a11 a12 a13) (course_stakeOf.f (k + 1) a0 a1 a2 a3 a4 a5 a6 a7 a8 a9 a10 a11 a12 a13) := by
 intro a0 a1 a2 a3 a4 a5 a6 a7 a8 a9 a10 a11 a12 a13 k
 unfold course_stakeOf.f
 repeat' first
   | (with_reducible exact course_sheetOf.mono _ _ _ _ _ _ _ _ _ _ _ _ _ _)
   | (with_reducible exact LeO.refl _)
   | (with_reducible exact LeO.none _)
   | (with_reducible refine LeO.ite ?_ ?_)
   | (with_reducible refine LeO.bind ?_ (fun _ => ?_))
   | exact course_sheetOf.mono _ _ _ _ _ _ _ _ _ _ _ _ _ _
   | exact LeO.none _
   | refine LeO.ite ?_ ?_
   | refine LeO.bind ?_ (fun _ => ?_)
set_option maxHeartbeats 8000000 in
set_option maxRecDepth 100000 in
theorem course_stakeOf.calls (k : Nat) (a0_0 : Int) (a0_1 : Int) (A0_2 : Option Addr) (c0_2 : Nat) (l0_2 : List (S26)) (a1_0 : Int) (a1_1 : Int) (a1_2 : Int) (a1_3 : Int) (a1_4 : Int) (a1_5 : Int) (a1_6 : Int) (a1_7 : Int) (A1_8 : Option Addr) (c1_8 : Nat) (l1_8 : List (S71)) (a2 : Int) (a3 : Int) (r : Int) (w : World) (hr0_2 : Kd.C k26 w A0_2 l0_2.length l0_2) (hc0_2 : l0_2.length ≤ c0_2) (hr1_8 : Kd.C k71 w A1_8 l1_8.length l1_8) (hc1_8 : l1_8.length ≤ c1_8) (h : course_stakeOf.f k a0_0 a0_1 l0_2 a1_0 a1_1 a1_2 a1_3 a1_4 a1_5 a1_6 a1_7 l1_8 a2 a3 = some r) :
  Calls Tryd.prog 104 #[.agg #[.int .i64 a0_0, .int .i64 a0_1, .slice A0_2 l0_2.length c0_2], .agg #[.int .i64 a1_0, .int .i64 a1_1, .int .i64 a1_2, .int .i64 a1_3, .int .i64 a1_4, .int .i64 a1_5, .int .i64 a1_6, .int .i64 a1_7, .slice A1_8 l1_8.length c1_8], .int .i64 a2, .int .i64 a3] w fun e w' => e = .returned (.int .i64 r) ∧ Below w.heap.size w w' := by
 have hu24 := Tryd.underlying24
 have hu47 := Tryd.underlying47
 have HR0_2 := Aside0.mk (hr0_2)
 have HC0_2 := Aside0.mk (hc0_2)
 clear hr0_2 hc0_2
 have HR1_8 := Aside0.mk (hr1_8)
 have HC1_8 := Aside0.mk (hc1_8)
 clear hr1_8 hc1_8
 have HB := Bw.mk (Below.refl w.heap.size w)
 have H : ((course_sheetOf.f k a0_0 a0_1 l0_2 a1_0 a1_1 a1_2 a1_3 a1_4 a1_5 a1_6 a1_7 l1_8 a3).bind fun t226 => (if t226 = 0 then (if a2 < 0 then (some 1) else (if a2 ≥ (l1_8.length : Int) then (some 1) else (some 0))) else (some t226))) = some r := h
 clear h
 replace H := Option.bind_eq_some_iff.mp H
 obtain ⟨t226, A50, H⟩ := H
 have A5 := Aside0.mk (A50)
 clear A50
 by_cases c6 : t226 = 0
 ·
  rw [if_pos c6] at H
  have c6b0 : (t226 == 0) = true := beq_iff_eq.mpr c6
  have c6b1 : (t226 != 0) = false := bne_eq_false_iff_eq.mpr c6
  clear c6
  by_cases c7 : a2 < 0
  ·
   rw [if_pos c7] at H
   have c7b0 : decide (a2 < 0) = true := decide_eq_true c7
   clear c7
   obtain rfl := Option.some.inj H
   go_enter Tryd.func104, Tryd.ntmps104
   go_wp2_with (first | ((with_reducible refine gate_dst (N := 4) rfl ?_); (try (refine gate_guard (by rfl) ?_; dsimp only)); refine bxE 4 24 #[.int .i64 a0_0, .int .i64 a0_1, .slice A0_2 l0_2.length c0_2] (by rfl) (by rfl) (by first | (go_simp; done) | (go_simp; rfl)) ?_; intro gb224 hg w8 hbox hb; have BK224 := Bk.mk (hbox); have GE224 := eB w hg; replace HB := bS w hb; clear hb hbox hg) | ((with_reducible refine gate_dst (N := 5) rfl ?_); (try (refine gate_guard (by rfl) ?_; dsimp only)); refine bxE 5 47 #[.int .i64 a1_0, .int .i64 a1_1, .int .i64 a1_2, .int .i64 a1_3, .int .i64 a1_4, .int .i64 a1_5, .int .i64 a1_6, .int .i64 a1_7, .slice A1_8 l1_8.length c1_8] (by rfl) (by rfl) (by first | (go_simp; done) | (go_simp; rfl)) ?_; intro gb225 hg w9 hbox hb; have BK225 := Bk.mk (hbox); have GE225 := eB w hg; replace BK224 := kB gb224 hb; replace HB := bS w hb; clear hb hbox hg; obtain ⟨hcz11_0, hcz11_1, hcz11_2, hfz11_0, hfz11_1, hfz11_2⟩ := cz3 BK224; obtain ⟨hcz12_0, hcz12_1, hcz12_2, hcz12_3, hcz12_4, hcz12_5, hcz12_6, hcz12_7, hcz12_8, hfz12_0, hfz12_1, hfz12_2, hfz12_3, hfz12_4, hfz12_5, hfz12_6, hfz12_7, hfz12_8⟩ := cz9 BK225) | ((with_reducible refine gate_callee (f := 133) rfl ?_); refine goesLM (some 13) rfl rfl Tryd.func133 (by kernel_rfl) rfl #[.agg #[.int .i64 a0_0, .int .i64 a0_1, .slice A0_2 l0_2.length c0_2], .agg #[.int .i64 a1_0, .int .i64 a1_1, .int .i64 a1_2, .int .i64 a1_3, .int .i64 a1_4, .int .i64 a1_5, .int .i64 a1_6, .int .i64 a1_7, .slice A1_8 l1_8.length c1_8], .int .i64 a3] rfl (by rfl) ?_; (with_reducible refine (course_sheetOf.calls k a0_0 a0_1 _ _ l0_2 a1_0 a1_1 a1_2 a1_3 a1_4 a1_5 a1_6 a1_7 _ _ l1_8 a3 t226 _ ?side1 ?side2 ?side3 ?side4 A5.out).mono ?_); (case side1 => exact cP (Kd.C_below HR0_2.out HB.out)); (case side2 => exact HC0_2.out); (case side3 => exact cP (Kd.C_below HR1_8.out HB.out)); (case side4 => exact HC1_8.out); rintro e w13 ⟨rfl, hb⟩; refine ⟨_, rfl, ?_⟩; replace BK224 := kB gb224 hb; replace BK225 := kB gb225 hb; replace HB := bS w hb; (try clear hb)))
   go_ret
   exact ⟨by first | rfl | (simp [errW_none, errW_some] <;> rfl) | (simp [*, errW_none, errW_some] <;> rfl), bw w⟩
  ·
   rw [if_neg c7] at H
   have c7b0 : decide (a2 < 0) = false := decide_eq_false c7
   clear c7
   by_cases c14 : a2 ≥ (l1_8.length : Int)
   ·
    rw [if_pos c14] at H
    have c14b0 : decide ((l1_8.length : Int) ≤ a2) = true := decide_eq_true c14
    clear c14
    obtain rfl := Option.some.inj H
    go_enter Tryd.func104, Tryd.ntmps104
    go_wp2_with (first | ((with_reducible refine gate_dst (N := 4) rfl ?_); (try (refine gate_guard (by rfl) ?_; dsimp only)); refine bxE 4 24 #[.int .i64 a0_0, .int .i64 a0_1, .slice A0_2 l0_2.length c0_2] (by rfl) (by rfl) (by first | (go_simp; done) | (go_simp; rfl)) ?_; intro gb224 hg w15 hbox hb; have BK224 := Bk.mk (hbox); have GE224 := eB w hg; replace HB := bS w hb; clear hb hbox hg) | ((with_reducible refine gate_dst (N := 5) rfl ?_); (try (refine gate_guard (by rfl) ?_; dsimp only)); refine bxE 5 47 #[.int .i64 a1_0, .int .i64 a1_1, .int .i64 a1_2, .int .i64 a1_3, .int .i64 a1_4, .int .i64 a1_5, .int .i64 a1_6, .int .i64 a1_7, .slice A1_8 l1_8.length c1_8] (by rfl) (by rfl) (by first | (go_simp; done) | (go_simp; rfl)) ?_; intro gb225 hg w16 hbox hb; have BK225 := Bk.mk (hbox); have GE225 := eB w hg; replace BK224 := kB gb224 hb; replace HB := bS w hb; clear hb hbox hg; obtain ⟨hcz18_0, hcz18_1, hcz18_2, hfz18_0, hfz18_1, hfz18_2⟩ := cz3 BK224; obtain ⟨hcz19_0, hcz19_1, hcz19_2, hcz19_3, hcz19_4, hcz19_5, hcz19_6, hcz19_7, hcz19_8, hfz19_0, hfz19_1, hfz19_2, hfz19_3, hfz19_4, hfz19_5, hfz19_6, hfz19_7, hfz19_8⟩ := cz9 BK225) | ((with_reducible refine gate_callee (f := 133) rfl ?_); refine goesLM (some 13) rfl rfl Tryd.func133 (by kernel_rfl) rfl #[.agg #[.int .i64 a0_0, .int .i64 a0_1, .slice A0_2 l0_2.length c0_2], .agg #[.int .i64 a1_0, .int .i64 a1_1, .int .i64 a1_2, .int .i64 a1_3, .int .i64 a1_4, .int .i64 a1_5, .int .i64 a1_6, .int .i64 a1_7, .slice A1_8 l1_8.length c1_8], .int .i64 a3] rfl (by rfl) ?_; (with_reducible refine (course_sheetOf.calls k a0_0 a0_1 _ _ l0_2 a1_0 a1_1 a1_2 a1_3 a1_4 a1_5 a1_6 a1_7 _ _ l1_8 a3 t226 _ ?side1 ?side2 ?side3 ?side4 A5.out).mono ?_); (case side1 => exact cP (Kd.C_below HR0_2.out HB.out)); (case side2 => exact HC0_2.out); (case side3 => exact cP (Kd.C_below HR1_8.out HB.out)); (case side4 => exact HC1_8.out); rintro e w20 ⟨rfl, hb⟩; refine ⟨_, rfl, ?_⟩; replace BK224 := kB gb224 hb; replace BK225 := kB gb225 hb; replace HB := bS w hb; (try clear hb); obtain ⟨hcz21_0, hcz21_1, hcz21_2, hcz21_3, hcz21_4, hcz21_5, hcz21_6, hcz21_7, hcz21_8, hfz21_0, hfz21_1, hfz21_2, hfz21_3, hfz21_4, hfz21_5, hfz21_6, hfz21_7, hfz21_8⟩ := cz9 BK225))
    go_ret
    exact ⟨by first | rfl | (simp [errW_none, errW_some] <;> rfl) | (simp [*, errW_none, errW_some] <;> rfl), bw w⟩
   ·
    rw [if_neg c14] at H
    have c14b0 : decide ((l1_8.length : Int) ≤ a2) = false := decide_eq_false c14
    clear c14
    obtain rfl := Option.some.inj H
    go_enter Tryd.func104, Tryd.ntmps104
    go_wp2_with (first | ((with_reducible refine gate_dst (N := 4) rfl ?_); (try (refine gate_guard (by rfl) ?_; dsimp only)); refine bxE 4 24 #[.int .i64 a0_0, .int .i64 a0_1, .slice A0_2 l0_2.length c0_2] (by rfl) (by rfl) (by first | (go_simp; done) | (go_simp; rfl)) ?_; intro gb224 hg w22 hbox hb; have BK224 := Bk.mk (hbox); have GE224 := eB w hg; replace HB := bS w hb; clear hb hbox hg) | ((with_reducible refine gate_dst (N := 5) rfl ?_); (try (refine gate_guard (by rfl) ?_; dsimp only)); refine bxE 5 47 #[.int .i64 a1_0, .int .i64 a1_1, .int .i64 a1_2, .int .i64 a1_3, .int .i64 a1_4, .int .i64 a1_5, .int .i64 a1_6, .int .i64 a1_7, .slice A1_8 l1_8.length c1_8] (by rfl) (by rfl) (by first | (go_simp; done) | (go_simp; rfl)) ?_; intro gb225 hg w23 hbox hb; have BK225 := Bk.mk (hbox); have GE225 := eB w hg; replace BK224 := kB gb224 hb; replace HB := bS w hb; clear hb hbox hg; obtain ⟨hcz25_0, hcz25_1, hcz25_2, hfz25_0, hfz25_1, hfz25_2⟩ := cz3 BK224; obtain ⟨hcz26_0, hcz26_1, hcz26_2, hcz26_3, hcz26_4, hcz26_5, hcz26_6, hcz26_7, hcz26_8, hfz26_0, hfz26_1, hfz26_2, hfz26_3, hfz26_4, hfz26_5, hfz26_6, hfz26_7, hfz26_8⟩ := cz9 BK225) | ((with_reducible refine gate_callee (f := 133) rfl ?_); refine goesLM (some 13) rfl rfl Tryd.func133 (by kernel_rfl) rfl #[.agg #[.int .i64 a0_0, .int .i64 a0_1, .slice A0_2 l0_2.length c0_2], .agg #[.int .i64 a1_0, .int .i64 a1_1, .int .i64 a1_2, .int .i64 a1_3, .int .i64 a1_4, .int .i64 a1_5, .int .i64 a1_6, .int .i64 a1_7, .slice A1_8 l1_8.length c1_8], .int .i64 a3] rfl (by rfl) ?_; (with_reducible refine (course_sheetOf.calls k a0_0 a0_1 _ _ l0_2 a1_0 a1_1 a1_2 a1_3 a1_4 a1_5 a1_6 a1_7 _ _ l1_8 a3 t226 _ ?side1 ?side2 ?side3 ?side4 A5.out).mono ?_); (case side1 => exact cP (Kd.C_below HR0_2.out HB.out)); (case side2 => exact HC0_2.out); (case side3 => exact cP (Kd.C_below HR1_8.out HB.out)); (case side4 => exact HC1_8.out); rintro e w27 ⟨rfl, hb⟩; refine ⟨_, rfl, ?_⟩; replace BK224 := kB gb224 hb; replace BK225 := kB gb225 hb; replace HB := bS w hb; (try clear hb); obtain ⟨hcz28_0, hcz28_1, hcz28_2, hcz28_3, hcz28_4, hcz28_5, hcz28_6, hcz28_7, hcz28_8, hfz28_0, hfz28_1, hfz28_2, hfz28_3, hfz28_4, hfz28_5, hfz28_6, hfz28_7, hfz28_8⟩ := cz9 BK225))
    go_ret
    exact ⟨by first | rfl | (simp [errW_none, errW_some] <;> rfl) | (simp [*, errW_none, errW_some] <;> rfl), bw w⟩
 ·
  rw [if_neg c6] at H
  have c6b0 : (t226 == 0) = false := beq_eq_false_iff_ne.mpr c6
  have c6b1 : (t226 != 0) = true := bne_iff_ne.mpr c6
  obtain rfl := Option.some.inj H
  go_enter Tryd.func104, Tryd.ntmps104
  go_wp2_with (first | ((with_reducible refine gate_dst (N := 4) rfl ?_); (try (refine gate_guard (by rfl) ?_; dsimp only)); refine bxE 4 24 #[.int .i64 a0_0, .int .i64 a0_1, .slice A0_2 l0_2.length c0_2] (by rfl) (by rfl) (by first | (go_simp; done) | (go_simp; rfl)) ?_; intro gb224 hg w29 hbox hb; have BK224 := Bk.mk (hbox); have GE224 := eB w hg; replace HB := bS w hb; clear hb hbox hg) | ((with_reducible refine gate_dst (N := 5) rfl ?_); (try (refine gate_guard (by rfl) ?_; dsimp only)); refine bxE 5 47 #[.int .i64 a1_0, .int .i64 a1_1, .int .i64 a1_2, .int .i64 a1_3, .int .i64 a1_4, .int .i64 a1_5, .int .i64 a1_6, .int .i64 a1_7, .slice A1_8 l1_8.length c1_8] (by rfl) (by rfl) (by first | (go_simp; done) | (go_simp; rfl)) ?_; intro gb225 hg w30 hbox hb; have BK225 := Bk.mk (hbox); have GE225 := eB w hg; replace BK224 := kB gb224 hb; replace HB := bS w hb; clear hb hbox hg; obtain ⟨hcz32_0, hcz32_1, hcz32_2, hfz32_0, hfz32_1, hfz32_2⟩ := cz3 BK224; obtain ⟨hcz33_0, hcz33_1, hcz33_2, hcz33_3, hcz33_4, hcz33_5, hcz33_6, hcz33_7, hcz33_8, hfz33_0, hfz33_1, hfz33_2, hfz33_3, hfz33_4, hfz33_5, hfz33_6, hfz33_7, hfz33_8⟩ := cz9 BK225) | ((with_reducible refine gate_callee (f := 133) rfl ?_); refine goesLM (some 13) rfl rfl Tryd.func133 (by kernel_rfl) rfl #[.agg #[.int .i64 a0_0, .int .i64 a0_1, .slice A0_2 l0_2.length c0_2], .agg #[.int .i64 a1_0, .int .i64 a1_1, .int .i64 a1_2, .int .i64 a1_3, .int .i64 a1_4, .int .i64 a1_5, .int .i64 a1_6, .int .i64 a1_7, .slice A1_8 l1_8.length c1_8], .int .i64 a3] rfl (by rfl) ?_; (with_reducible refine (course_sheetOf.calls k a0_0 a0_1 _ _ l0_2 a1_0 a1_1 a1_2 a1_3 a1_4 a1_5 a1_6 a1_7 _ _ l1_8 a3 t226 _ ?side1 ?side2 ?side3 ?side4 A5.out).mono ?_); (case side1 => exact cP (Kd.C_below HR0_2.out HB.out)); (case side2 => exact HC0_2.out); (case side3 => exact cP (Kd.C_below HR1_8.out HB.out)); (case side4 => exact HC1_8.out); rintro e w34 ⟨rfl, hb⟩; refine ⟨_, rfl, ?_⟩; replace BK224 := kB gb224 hb; replace BK225 := kB gb225 hb; replace HB := bS w hb; (try clear hb)))
  go_ret
  exact ⟨by first | rfl | (simp [errW_none, errW_some] <;> rfl) | (simp [*, errW_none, errW_some] <;> rfl), bw w⟩
def course_turns.l0 : Nat → List (S71) → Int → Int → Int → Int → Int → Int → Int → Int → Int → Int → List (S71) → Int → Int → Option (Int × Int × Int)
 | 0, _, _, _, _, _, _, _, _, _, _, _, _, _, _ => none
 | k + 1, x19, x20, x21, x229000, x229001, x229002, x229003, x229004, x229005, x229006, x229007, x229008, x233000, x233001 => if x21 < x20 then (if 0 ≤ x21 then (if x21 < (x19.length : Int) then (course_turns.l0 k x19 x20 (wrap64 (x21 + 1)) x229000 x229001 x229002 x229003 x229004 x229005 x229006 x229007 x229008 x233000 (mn x233001 (wrap64 (((rd_T71 x19 x21).f2) - x229006)))) else (none)) else (none)) else (if x233000 > x233001 then (some (0, 0, 13)) else (some (x233000, x233001, 0)))
def course_turns.f (k : Nat) (a0_0 : Int) (a0_1 : Int) (l0_2 : List (S26)) (a1_0 : Int) (a1_1 : Int) (a1_2 : Int) (a1_3 : Int) (a1_4 : Int) (a1_5 : Int) (a1_6 : Int) (a1_7 : Int) (l1_8 : List (S71)) (a2 : Int) : Option (Int × Int × Int) := (course_turn.f k a0_0 a0_1 l0_2 a1_7 a1_2 a2).bind fun bt230 => (course_turns.l0 k l1_8 (l1_8.length : Int) 0 a1_0 a1_1 a1_2 a1_3 a1_4 a1_5 a1_6 a1_7 l1_8 bt230.1 bt230.2)
theorem course_turns.mono_l : ∀ k, (∀ y0 y1 y2 y3 y4 y5 y6 y7 y8 y9 y10 y11 y12 y13, LeO (course_turns.l0 k y0 y1 y2 y3 y4 y5 y6 y7 y8 y9 y10 y11 y12 y13) (course_turns.l0 (k + 1) y0 y1 y2 y3 y4 y5 y6 y7 y8 y9 y10 y11 y12 y13))
 | 0 => fun _ _ _ _ _ _ _ _ _ _ _ _ _ _ r h => by simp [course_turns.l0] at h
 | k + 1 => by
  have ih0 := course_turns.mono_l k
  ·
   intro y0 y1 y2 y3 y4 y5 y6 y7 y8 y9 y10 y11 y12 y13
   unfold course_turns.l0
   repeat' first
   | (with_reducible exact ih0 _ _ _ _ _ _ _ _ _ _ _ _ _ _)
   | (with_reducible exact course_turn.mono _ _ _ _ _ _ _)
   | (with_reducible exact LeO.refl _)
   | (with_reducible exact LeO.none _)
   | (with_reducible refine LeO.ite ?_ ?_)
   | (with_reducible refine LeO.bind ?_ (fun _ => ?_))
   | exact ih0 _ _ _ _ _ _ _ _ _ _ _ _ _ _
   | exact course_turn.mono _ _ _ _ _ _ _
   | exact LeO.none _
   | refine LeO.ite ?_ ?_
   | refine LeO.bind ?_ (fun _ => ?_)
theorem course_turns.mono : ∀ a0 a1 a2 a3 a4 a5 a6 a7 a8 a9 a10 a11 a12 k, LeO (course_turns.f k a0 a1 a2 a3 a4 a5 a6 a7 a8 a9 a10 a11 a12) (course_turns.f (k + 1) a0 a1 a2 a3 a4 a5 a6 a7 a8 a9 a10 a11 a12) := by
 intro a0 a1 a2 a3 a4 a5 a6 a7 a8 a9 a10 a11 a12 k
 have ih0 := course_turns.mono_l k
 unfold course_turns.f
 repeat' first
   | (with_reducible exact ih0 _ _ _ _ _ _ _ _ _ _ _ _ _ _)
   | (with_reducible exact course_turn.mono _ _ _ _ _ _ _)
   | (with_reducible exact LeO.refl _)
   | (with_reducible exact LeO.none _)
   | (with_reducible refine LeO.ite ?_ ?_)
   | (with_reducible refine LeO.bind ?_ (fun _ => ?_))
   | exact ih0 _ _ _ _ _ _ _ _ _ _ _ _ _ _
   | exact course_turn.mono _ _ _ _ _ _ _
   | exact LeO.none _
   | refine LeO.ite ?_ ?_
   | refine LeO.bind ?_ (fun _ => ?_)
set_option maxHeartbeats 8000000 in
set_option maxRecDepth 100000 in
theorem course_turns.calls (k : Nat) (a0_0 : Int) (a0_1 : Int) (A0_2 : Option Addr) (c0_2 : Nat) (l0_2 : List (S26)) (a1_0 : Int) (a1_1 : Int) (a1_2 : Int) (a1_3 : Int) (a1_4 : Int) (a1_5 : Int) (a1_6 : Int) (a1_7 : Int) (A1_8 : Option Addr) (c1_8 : Nat) (l1_8 : List (S71)) (a2 : Int) (r1 : Int) (r2 : Int) (r3 : Int) (w : World) (hr0_2 : Kd.C k26 w A0_2 l0_2.length l0_2) (hc0_2 : l0_2.length ≤ c0_2) (hr1_8 : Kd.C k71 w A1_8 l1_8.length l1_8) (hc1_8 : l1_8.length ≤ c1_8) (h : course_turns.f k a0_0 a0_1 l0_2 a1_0 a1_1 a1_2 a1_3 a1_4 a1_5 a1_6 a1_7 l1_8 a2 = some (r1, r2, r3)) :
  Calls Tryd.prog 105 #[.agg #[.int .i64 a0_0, .int .i64 a0_1, .slice A0_2 l0_2.length c0_2], .agg #[.int .i64 a1_0, .int .i64 a1_1, .int .i64 a1_2, .int .i64 a1_3, .int .i64 a1_4, .int .i64 a1_5, .int .i64 a1_6, .int .i64 a1_7, .slice A1_8 l1_8.length c1_8], .int .i64 a2] w fun e w' => e = .returned (.tuple #[.agg #[.int .i64 r1, .int .i64 r2], .int .i64 r3]) ∧ Below w.heap.size w w' := by
 have hu24 := Tryd.underlying24
 have hu47 := Tryd.underlying47
 have hu103 := Tryd.underlying103
 have hu71 := Tryd.underlying71
 have HR0_2 := Aside0.mk (hr0_2)
 have HC0_2 := Aside0.mk (hc0_2)
 clear hr0_2 hc0_2
 have HR1_8 := Aside0.mk (hr1_8)
 have HC1_8 := Aside0.mk (hc1_8)
 clear hr1_8 hc1_8
 have HB := Bw.mk (Below.refl w.heap.size w)
 have H : ((course_turn.f k a0_0 a0_1 l0_2 a1_7 a1_2 a2).bind fun bt230 => (course_turns.l0 k l1_8 (l1_8.length : Int) 0 a1_0 a1_1 a1_2 a1_3 a1_4 a1_5 a1_6 a1_7 l1_8 bt230.1 bt230.2)) = some (r1, r2, r3) := h
 clear h
 replace H := Option.bind_eq_some_iff.mp H
 obtain ⟨⟨t230, t231⟩, A40, H⟩ := H
 have A4 := Aside0.mk (A40)
 clear A40
 have H' := Aside0.mk H
 clear H
 go_enter Tryd.func105, Tryd.ntmps105
 go_wp2_with (first | ((with_reducible refine gate_dst (N := 3) rfl ?_); refine bxE 3 24 #[.int .i64 a0_0, .int .i64 a0_1, .slice A0_2 l0_2.length c0_2] (by rfl) (by rfl) (by first | (go_simp; done) | (go_simp; rfl)) ?_; intro gb227 hg w5 hbox hb; have BK227 := Bk.mk (hbox); have GE227 := eB w hg; replace HB := bS w hb; clear hb hbox hg) | ((with_reducible refine gate_dst (N := 4) rfl ?_); refine bxE 4 47 #[.int .i64 a1_0, .int .i64 a1_1, .int .i64 a1_2, .int .i64 a1_3, .int .i64 a1_4, .int .i64 a1_5, .int .i64 a1_6, .int .i64 a1_7, .slice A1_8 l1_8.length c1_8] (by rfl) (by rfl) (by first | (go_simp; done) | (go_simp; rfl)) ?_; intro gb228 hg w6 hbox hb; have BK228 := Bk.mk (hbox); have GE228 := eB w hg; have NB227_228 := nB gb227 hg; replace BK227 := kB gb227 hb; replace HB := bS w hb; clear hb hbox hg) | ((with_reducible refine gate_dst (N := 6) rfl ?_); refine bxE 6 103 #[.int .i64 0, .int .i64 0] (by rfl) (by rfl) (by first | (go_simp; done) | (go_simp; rfl)) ?_; intro gb229 hg w7 hbox hb; have BK229 := Bk.mk (hbox); have GE229 := eB w hg; have NB227_229 := nB gb227 hg; have NB228_229 := nB gb228 hg; replace BK227 := kB gb227 hb; replace BK228 := kB gb228 hb; replace HB := bS w hb; clear hb hbox hg; obtain ⟨hnb8, hnc8⟩ := nn NB227_228; obtain ⟨hnb9, hnc9⟩ := nn NB227_229; obtain ⟨hcz10_0, hcz10_1, hcz10_2, hfz10_0, hfz10_1, hfz10_2⟩ := cz3 BK227; obtain ⟨hnb11, hnc11⟩ := nn NB228_229; obtain ⟨hcz12_0, hcz12_1, hcz12_2, hcz12_3, hcz12_4, hcz12_5, hcz12_6, hcz12_7, hcz12_8, hfz12_0, hfz12_1, hfz12_2, hfz12_3, hfz12_4, hfz12_5, hfz12_6, hfz12_7, hfz12_8⟩ := cz9 BK228) | ((with_reducible refine gate_callee (f := 79) rfl ?_); refine goesLM (some 17) rfl rfl Tryd.func79 (by kernel_rfl) rfl #[.agg #[.int .i64 a0_0, .int .i64 a0_1, .slice A0_2 l0_2.length c0_2], .int .i64 a1_7, .int .i64 a1_2, .int .i64 a2] rfl (by rfl) ?_; (with_reducible refine (course_turn.calls k a0_0 a0_1 _ _ l0_2 a1_7 a1_2 a2 t230 t231 _ ?side1 ?side2 A4.out).mono ?_); (case side1 => exact cP (Kd.C_below HR0_2.out HB.out)); (case side2 => exact HC0_2.out); rintro e w13 ⟨rfl, hb⟩; refine ⟨_, rfl, ?_⟩; replace BK227 := kB gb227 hb; replace BK228 := kB gb228 hb; replace BK229 := kB gb229 hb; replace HB := bS w hb; (try clear hb)) | ((with_reducible refine gate_dst (N := 8) rfl ?_); refine bxE 8 103 #[.int .i64 0, .int .i64 0] (by rfl) (by rfl) (by first | (go_simp; done) | (go_simp; rfl)) ?_; intro gb232 hg w14 hbox hb; have BK232 := Bk.mk (hbox); have GE232 := eB w hg; have NB227_232 := nB gb227 hg; have NB228_232 := nB gb228 hg; have NB229_232 := nB gb229 hg; replace BK227 := kB gb227 hb; replace BK228 := kB gb228 hb; replace BK229 := kB gb229 hb; replace HB := bS w hb; clear hb hbox hg; obtain ⟨hnc15, hnb15⟩ := nn NB227_232; obtain ⟨hnc16, hnb16⟩ := nn NB228_232; obtain ⟨hnc17, hnb17⟩ := nn NB229_232; obtain ⟨hcz18_0, hcz18_1, hfz18_0, hfz18_1⟩ := cz2 BK232; obtain ⟨hcz19_0, hcz19_1, hcz19_2, hcz19_3, hcz19_4, hcz19_5, hcz19_6, hcz19_7, hcz19_8, hfz19_0, hfz19_1, hfz19_2, hfz19_3, hfz19_4, hfz19_5, hfz19_6, hfz19_7, hfz19_8⟩ := cz9 BK228))
 go_loopg [21] k (fun kq v21 w' => ∃ (x21_1 : Int) (x233001_1 : Int), v21 = .int .i64 x21_1 ∧ Aside0 (course_turns.l0 kq l1_8 (l1_8.length : Int) x21_1 a1_0 a1_1 a1_2 a1_3 a1_4 a1_5 a1_6 a1_7 l1_8 t230 x233001_1 = some (r1, r2, r3)) ∧ Aside0 (kq ≤ k) ∧ Bk w' gb227 (.cells #[.int .i64 a0_0, .int .i64 a0_1, (.slice A0_2 l0_2.length c0_2)] 24 (0, 0)) ∧ Bk w' gb228 (.cells #[.int .i64 a1_0, .int .i64 a1_1, .int .i64 a1_2, .int .i64 a1_3, .int .i64 a1_4, .int .i64 a1_5, .int .i64 a1_6, .int .i64 a1_7, (.slice A1_8 l1_8.length c1_8)] 47 (0, 0)) ∧ Bk w' gb229 (.cells #[.int .i64 0, .int .i64 0] 103 (0, 0)) ∧ Bk w' gb232 (.cells #[.int .i64 t230, .int .i64 x233001_1] 103 (0, 0)) ∧ Bw w w')
 case atStart => exact ⟨(0), (t231), (by first | rfl | (simp; done) | (simp [*]; done)), H', ⟨Nat.le_refl _⟩, ⟨bko gb227 (by rfl)⟩, ⟨bko gb228 (by rfl)⟩, ⟨bko gb229 (by rfl)⟩, ⟨bko gb232 (by rfl)⟩, inferInstance⟩
 case round =>
  clear H'
  try clear c1
  try clear p2
  try clear c7
  try clear c8
  try clear c9
  try clear c10
  try clear c11
  try clear c15
  try clear c16
  try clear c17
  obtain ⟨x21_1, x233001_1, rfl, HA, HK1, BK227, BK228, BK229, BK232, HB⟩ := hrel
  cases gk with
  | zero => exact absurd HA.out (by simp [course_turns.l0])
  | succ k1 =>
   have H := HA.out
   clear HA
   simp only [course_turns.l0] at H
   by_cases c20 : x21_1 < (l1_8.length : Int)
   ·
    rw [if_pos c20] at H
    have c20b0 : decide (x21_1 < (l1_8.length : Int)) = true := decide_eq_true c20
    clear c20
    by_cases c21 : 0 ≤ x21_1
    ·
     rw [if_pos c21] at H
     have c21b0 : decide (0 ≤ x21_1) = true := decide_eq_true c21
     clear c21
     by_cases c22 : x21_1 < (l1_8.length : Int)
     ·
      rw [if_pos c22] at H
      have c22b0 : decide (x21_1 < (l1_8.length : Int)) = true := decide_eq_true c22
      clear c22
      obtain ⟨ji23, hji23⟩ : ∃ j_ : Int, (mn x233001_1 (wrap64 (((rd_T71 l1_8 x21_1).f2) - a1_6))) = j_ := ⟨_, rfl⟩
      replace H : (course_turns.l0 k1 l1_8 (l1_8.length : Int) (wrap64 (x21_1 + 1)) a1_0 a1_1 a1_2 a1_3 a1_4 a1_5 a1_6 a1_7 l1_8 t230 ji23) = some (r1, r2, r3) := by first | (rw [hji23] at H; exact H) | (simp only [hji23] at H ⊢; exact H)
      have hji23_ : (if (wrap64 (((rd_T71 l1_8 x21_1).f2) - a1_6)) < x233001_1 then (wrap64 (((rd_T71 l1_8 x21_1).f2) - a1_6)) else x233001_1) = ji23 := hji23
      have H' := Aside0.mk H
      clear H
      have p233 : 0 ≤ (x21_1 : Int) := of_decide_eq_true (by first | (with_reducible assumption) | assumption)
      have q233 : x21_1 < (l1_8.length : Int) := of_decide_eq_true (by first | (with_reducible assumption) | assumption)
      obtain ⟨ad233, e233, hx233_0, hx233_1, hx233_2, hx233_3, hx233_4⟩ := at_T71 HR1_8.out x21_1 p233 q233
      cases e233
      replace hx233_0 := cB HB hx233_0
      replace hx233_1 := cB HB hx233_1
      replace hx233_2 := cB HB hx233_2
      replace hx233_3 := cB HB hx233_3
      replace hx233_4 := cB HB hx233_4
      replace p233 := eq_true p233
      replace q233 := eq_true q233
      go_wp2_with (first | ((with_reducible refine gate_dst (N := 10) rfl ?_); refine bxE 10 71 #[.int .i64 0, .int .i64 0, .int .i64 0, .int .i64 0, .int .i64 0] (by rfl) (by rfl) (by first | (go_simp; done) | (go_simp; rfl)) ?_; intro gb234 hg w24 hbox hb; have BK234 := Bk.mk (hbox); have GE234 := eB w hg; have NB227_234 := nB gb227 hg; have NB228_234 := nB gb228 hg; have NB229_234 := nB gb229 hg; have NB232_234 := nB gb232 hg; replace BK227 := kB gb227 hb; replace BK228 := kB gb228 hb; replace BK229 := kB gb229 hb; replace BK232 := kB gb232 hb; replace HB := bS w hb; clear hb hbox hg; obtain ⟨hnc25, hnb25⟩ := nn NB227_234; obtain ⟨hnc26, hnb26⟩ := nn NB228_234; obtain ⟨hnc27, hnb27⟩ := nn NB229_234; obtain ⟨hnc28, hnb28⟩ := nn NB232_234; obtain ⟨hcz29_0, hcz29_1, hcz29_2, hcz29_3, hcz29_4, hfz29_0, hfz29_1, hfz29_2, hfz29_3, hfz29_4⟩ := cz5 BK234; obtain ⟨hnc30, hnb30⟩ := nn NB227_232; obtain ⟨hnc31, hnb31⟩ := nn NB228_232; obtain ⟨hnc32, hnb32⟩ := nn NB229_232; obtain ⟨hcz33_0, hcz33_1, hfz33_0, hfz33_1⟩ := cz2 BK232; obtain ⟨hnc34, hnb34⟩ := nn NB227_228; obtain ⟨hnb35, hnc35⟩ := nn NB228_229; obtain ⟨hcz36_0, hcz36_1, hcz36_2, hcz36_3, hcz36_4, hcz36_5, hcz36_6, hcz36_7, hcz36_8, hfz36_0, hfz36_1, hfz36_2, hfz36_3, hfz36_4, hfz36_5, hfz36_6, hfz36_7, hfz36_8⟩ := cz9 BK228))
      go_roundg k1
      case measure => have := HK1.out; omega
      case rel => exact ⟨(wrap64 (x21_1 + 1)), (ji23), (by first | rfl | (simp; done) | (simp [*]; done)), H', ⟨by have := HK1.out; omega⟩, ⟨bko gb227 (by rfl)⟩, ⟨bko gb228 (by rfl)⟩, ⟨bko gb229 (by rfl)⟩, ⟨bko gb232 (by rfl)⟩, inferInstance⟩
     ·
      rw [if_neg c22] at H
      exact absurd H (by simp)
    ·
     rw [if_neg c21] at H
     exact absurd H (by simp)
   ·
    rw [if_neg c20] at H
    have c20b0 : decide (x21_1 < (l1_8.length : Int)) = false := decide_eq_false c20
    clear c20
    by_cases c37 : t230 > x233001_1
    ·
     rw [if_pos c37] at H
     have c37b0 : decide (x233001_1 < t230) = true := decide_eq_true c37
     clear c37
     simp only [Option.some.injEq, Prod.mk.injEq] at H
     obtain ⟨rfl, rfl, rfl⟩ := H
     obtain ⟨hnc38, hnb38⟩ := nn NB227_232
     obtain ⟨hnc39, hnb39⟩ := nn NB228_232
     obtain ⟨hnc40, hnb40⟩ := nn NB229_232
     obtain ⟨hcz41_0, hcz41_1, hfz41_0, hfz41_1⟩ := cz2 BK232
     obtain ⟨hnc42, hnb42⟩ := nn NB227_229
     obtain ⟨hnc43, hnb43⟩ := nn NB228_229
     obtain ⟨hcz44_0, hcz44_1, hfz44_0, hfz44_1⟩ := cz2 BK229
     go_wp2
     all_goals (refine bodyPost_ret (results_ct rfl _ _ gb229 103 #[.int .i64 0, .int .i64 0] (0, 0) _ rfl (bko gb229 (by rfl)) Tryd.underlying103 rfl (by kernel_rfl)) rfl ?_; exact ⟨by first | rfl | (simp [errW_none, errW_some] <;> rfl) | (simp [*, errW_none, errW_some] <;> rfl), bw w⟩)
    ·
     rw [if_neg c37] at H
     have c37b0 : decide (x233001_1 < t230) = false := decide_eq_false c37
     clear c37
     simp only [Option.some.injEq, Prod.mk.injEq] at H
     obtain ⟨rfl, rfl, rfl⟩ := H
     obtain ⟨hnc45, hnb45⟩ := nn NB227_232
     obtain ⟨hnc46, hnb46⟩ := nn NB228_232
     obtain ⟨hnc47, hnb47⟩ := nn NB229_232
     obtain ⟨hcz48_0, hcz48_1, hfz48_0, hfz48_1⟩ := cz2 BK232
     obtain ⟨hnc49, hnb49⟩ := nn NB227_229
     obtain ⟨hnc50, hnb50⟩ := nn NB228_229
     obtain ⟨hcz51_0, hcz51_1, hfz51_0, hfz51_1⟩ := cz2 BK229
     go_wp2
     all_goals (refine bodyPost_ret (results_ct rfl _ _ gb229 103 #[.int .i64 t230, .int .i64 x233001_1] (0, 0) _ rfl (bko gb229 (by rfl)) Tryd.underlying103 rfl (by kernel_rfl)) rfl ?_; exact ⟨by first | rfl | (simp [errW_none, errW_some] <;> rfl) | (simp [*, errW_none, errW_some] <;> rfl), bw w⟩)
def course_look.f (k : Nat) (a0_0 : Int) (a0_1 : Int) (l0_2 : List (S26)) (a1_0 : Int) (a1_1 : Int) (a1_2 : Int) (a1_3 : Int) (a1_4 : Int) (a1_5 : Int) (a1_6 : Int) (a1_7 : Int) (l1_8 : List (S71)) (a2 : Int) (a3 : Int) : Option (Int × Int × Int) := (course_stakeOf.f k a0_0 a0_1 l0_2 a1_0 a1_1 a1_2 a1_3 a1_4 a1_5 a1_6 a1_7 l1_8 a2 a3).bind fun t238 => (if t238 = 0 then ((course_turns.f k a0_0 a0_1 l0_2 a1_0 a1_1 a1_2 a1_3 a1_4 a1_5 a1_6 a1_7 l1_8 a3).bind fun bt239 => (some (bt239.1, bt239.2.1, bt239.2.2))) else (some (0, 0, t238)))
theorem course_look.mono : ∀ a0 a1 a2 a3 a4 a5 a6 a7 a8 a9 a10 a11 a12 a13 k, LeO (course_look.f k a0 a1 a2 a3 a4 a5 a6 a7 a8 a9 a10 a11 a12 a13) (course_look.f (k + 1) a0 a1 a2 a3 a4 a5 a6 a7 a8 a9 a10 a11 a12 a13) := by
 intro a0 a1 a2 a3 a4 a5 a6 a7 a8 a9 a10 a11 a12 a13 k
 unfold course_look.f
 repeat' first
   | (with_reducible exact course_stakeOf.mono _ _ _ _ _ _ _ _ _ _ _ _ _ _ _)
   | (with_reducible exact course_turns.mono _ _ _ _ _ _ _ _ _ _ _ _ _ _)
   | (with_reducible exact LeO.refl _)
   | (with_reducible exact LeO.none _)
   | (with_reducible refine LeO.ite ?_ ?_)
   | (with_reducible refine LeO.bind ?_ (fun _ => ?_))
   | exact course_stakeOf.mono _ _ _ _ _ _ _ _ _ _ _ _ _ _ _
   | exact course_turns.mono _ _ _ _ _ _ _ _ _ _ _ _ _ _
   | exact LeO.none _
   | refine LeO.ite ?_ ?_
   | refine LeO.bind ?_ (fun _ => ?_)
set_option maxHeartbeats 8000000 in
set_option maxRecDepth 100000 in
theorem course_look.calls (k : Nat) (a0_0 : Int) (a0_1 : Int) (A0_2 : Option Addr) (c0_2 : Nat) (l0_2 : List (S26)) (a1_0 : Int) (a1_1 : Int) (a1_2 : Int) (a1_3 : Int) (a1_4 : Int) (a1_5 : Int) (a1_6 : Int) (a1_7 : Int) (A1_8 : Option Addr) (c1_8 : Nat) (l1_8 : List (S71)) (a2 : Int) (a3 : Int) (r1 : Int) (r2 : Int) (r3 : Int) (w : World) (hr0_2 : Kd.C k26 w A0_2 l0_2.length l0_2) (hc0_2 : l0_2.length ≤ c0_2) (hr1_8 : Kd.C k71 w A1_8 l1_8.length l1_8) (hc1_8 : l1_8.length ≤ c1_8) (h : course_look.f k a0_0 a0_1 l0_2 a1_0 a1_1 a1_2 a1_3 a1_4 a1_5 a1_6 a1_7 l1_8 a2 a3 = some (r1, r2, r3)) :
  Calls Tryd.prog 81 #[.agg #[.int .i64 a0_0, .int .i64 a0_1, .slice A0_2 l0_2.length c0_2], .agg #[.int .i64 a1_0, .int .i64 a1_1, .int .i64 a1_2, .int .i64 a1_3, .int .i64 a1_4, .int .i64 a1_5, .int .i64 a1_6, .int .i64 a1_7, .slice A1_8 l1_8.length c1_8], .int .i64 a2, .int .i64 a3] w fun e w' => e = .returned (.tuple #[.agg #[.int .i64 r1, .int .i64 r2], .int .i64 r3]) ∧ Below w.heap.size w w' := by
 have hu24 := Tryd.underlying24
 have hu47 := Tryd.underlying47
 have hu103 := Tryd.underlying103
 have HR0_2 := Aside0.mk (hr0_2)
 have HC0_2 := Aside0.mk (hc0_2)
 clear hr0_2 hc0_2
 have HR1_8 := Aside0.mk (hr1_8)
 have HC1_8 := Aside0.mk (hc1_8)
 clear hr1_8 hc1_8
 have HB := Bw.mk (Below.refl w.heap.size w)
 have H : ((course_stakeOf.f k a0_0 a0_1 l0_2 a1_0 a1_1 a1_2 a1_3 a1_4 a1_5 a1_6 a1_7 l1_8 a2 a3).bind fun t238 => (if t238 = 0 then ((course_turns.f k a0_0 a0_1 l0_2 a1_0 a1_1 a1_2 a1_3 a1_4 a1_5 a1_6 a1_7 l1_8 a3).bind fun bt239 => (some (bt239.1, bt239.2.1, bt239.2.2))) else (some (0, 0, t238)))) = some (r1, r2, r3) := h
 clear h
 replace H := Option.bind_eq_some_iff.mp H
 obtain ⟨t238, A50, H⟩ := H
 have A5 := Aside0.mk (A50)
 clear A50
 by_cases c6 : t238 = 0
 ·
  rw [if_pos c6] at H
  have c6b0 : (t238 == 0) = true := beq_iff_eq.mpr c6
  have c6b1 : (t238 != 0) = false := bne_eq_false_iff_eq.mpr c6
  clear c6
  replace H := Option.bind_eq_some_iff.mp H
  obtain ⟨⟨t239, t240, t241⟩, A70, H⟩ := H
  have A7 := Aside0.mk (A70)
  clear A70
  simp only [Option.some.injEq, Prod.mk.injEq] at H
  obtain ⟨rfl, rfl, rfl⟩ := H
  go_enter Tryd.func81, Tryd.ntmps81
  go_wp2_with (first | ((with_reducible refine gate_dst (N := 4) rfl ?_); refine bxE 4 24 #[.int .i64 a0_0, .int .i64 a0_1, .slice A0_2 l0_2.length c0_2] (by rfl) (by rfl) (by first | (go_simp; done) | (go_simp; rfl)) ?_; intro gb235 hg w8 hbox hb; have BK235 := Bk.mk (hbox); have GE235 := eB w hg; replace HB := bS w hb; clear hb hbox hg) | ((with_reducible refine gate_dst (N := 5) rfl ?_); refine bxE 5 47 #[.int .i64 a1_0, .int .i64 a1_1, .int .i64 a1_2, .int .i64 a1_3, .int .i64 a1_4, .int .i64 a1_5, .int .i64 a1_6, .int .i64 a1_7, .slice A1_8 l1_8.length c1_8] (by rfl) (by rfl) (by first | (go_simp; done) | (go_simp; rfl)) ?_; intro gb236 hg w9 hbox hb; have BK236 := Bk.mk (hbox); have GE236 := eB w hg; have NB235_236 := nB gb235 hg; replace BK235 := kB gb235 hb; replace HB := bS w hb; clear hb hbox hg) | ((with_reducible refine gate_dst (N := 8) rfl ?_); refine bxE 8 103 #[.int .i64 0, .int .i64 0] (by rfl) (by rfl) (by first | (go_simp; done) | (go_simp; rfl)) ?_; intro gb237 hg w10 hbox hb; have BK237 := Bk.mk (hbox); have GE237 := eB w hg; have NB235_237 := nB gb235 hg; have NB236_237 := nB gb236 hg; replace BK235 := kB gb235 hb; replace BK236 := kB gb236 hb; replace HB := bS w hb; clear hb hbox hg; obtain ⟨hnb11, hnc11⟩ := nn NB235_236; obtain ⟨hnb12, hnc12⟩ := nn NB235_237; obtain ⟨hcz13_0, hcz13_1, hcz13_2, hfz13_0, hfz13_1, hfz13_2⟩ := cz3 BK235; obtain ⟨hnb14, hnc14⟩ := nn NB236_237; obtain ⟨hcz15_0, hcz15_1, hcz15_2, hcz15_3, hcz15_4, hcz15_5, hcz15_6, hcz15_7, hcz15_8, hfz15_0, hfz15_1, hfz15_2, hfz15_3, hfz15_4, hfz15_5, hfz15_6, hfz15_7, hfz15_8⟩ := cz9 BK236) | ((with_reducible refine gate_callee (f := 104) rfl ?_); refine goesLM (some 15) rfl rfl Tryd.func104 (by kernel_rfl) rfl #[.agg #[.int .i64 a0_0, .int .i64 a0_1, .slice A0_2 l0_2.length c0_2], .agg #[.int .i64 a1_0, .int .i64 a1_1, .int .i64 a1_2, .int .i64 a1_3, .int .i64 a1_4, .int .i64 a1_5, .int .i64 a1_6, .int .i64 a1_7, .slice A1_8 l1_8.length c1_8], .int .i64 a2, .int .i64 a3] rfl (by rfl) ?_; (with_reducible refine (course_stakeOf.calls k a0_0 a0_1 _ _ l0_2 a1_0 a1_1 a1_2 a1_3 a1_4 a1_5 a1_6 a1_7 _ _ l1_8 a2 a3 t238 _ ?side1 ?side2 ?side3 ?side4 A5.out).mono ?_); (case side1 => exact cP (Kd.C_below HR0_2.out HB.out)); (case side2 => exact HC0_2.out); (case side3 => exact cP (Kd.C_below HR1_8.out HB.out)); (case side4 => exact HC1_8.out); rintro e w16 ⟨rfl, hb⟩; refine ⟨_, rfl, ?_⟩; replace BK235 := kB gb235 hb; replace BK236 := kB gb236 hb; replace BK237 := kB gb237 hb; replace HB := bS w hb; (try clear hb); obtain ⟨hcz17_0, hcz17_1, hcz17_2, hfz17_0, hfz17_1, hfz17_2⟩ := cz3 BK235; obtain ⟨hcz18_0, hcz18_1, hcz18_2, hcz18_3, hcz18_4, hcz18_5, hcz18_6, hcz18_7, hcz18_8, hfz18_0, hfz18_1, hfz18_2, hfz18_3, hfz18_4, hfz18_5, hfz18_6, hfz18_7, hfz18_8⟩ := cz9 BK236) | ((with_reducible refine gate_callee (f := 105) rfl ?_); refine goesLM (some 23) rfl rfl Tryd.func105 (by kernel_rfl) rfl #[.agg #[.int .i64 a0_0, .int .i64 a0_1, .slice A0_2 l0_2.length c0_2], .agg #[.int .i64 a1_0, .int .i64 a1_1, .int .i64 a1_2, .int .i64 a1_3, .int .i64 a1_4, .int .i64 a1_5, .int .i64 a1_6, .int .i64 a1_7, .slice A1_8 l1_8.length c1_8], .int .i64 a3] rfl (by rfl) ?_; (with_reducible refine (course_turns.calls k a0_0 a0_1 _ _ l0_2 a1_0 a1_1 a1_2 a1_3 a1_4 a1_5 a1_6 a1_7 _ _ l1_8 a3 t239 t240 t241 _ ?side1 ?side2 ?side3 ?side4 A7.out).mono ?_); (case side1 => exact cP (Kd.C_below HR0_2.out HB.out)); (case side2 => exact HC0_2.out); (case side3 => exact cP (Kd.C_below HR1_8.out HB.out)); (case side4 => exact HC1_8.out); rintro e w19 ⟨rfl, hb⟩; refine ⟨_, rfl, ?_⟩; replace BK235 := kB gb235 hb; replace BK236 := kB gb236 hb; replace BK237 := kB gb237 hb; replace HB := bS w hb; (try clear hb); obtain ⟨hcz20_0, hcz20_1, hfz20_0, hfz20_1⟩ := cz2 BK237))
  all_goals (refine bodyPost_ret (results_ct rfl _ _ gb237 103 #[.int .i64 t239, .int .i64 t240] (0, 0) _ rfl (bko gb237 (by rfl)) Tryd.underlying103 rfl (by kernel_rfl)) rfl ?_; exact ⟨by first | rfl | (simp [errW_none, errW_some] <;> rfl) | (simp [*, errW_none, errW_some] <;> rfl), bw w⟩)
 ·
  rw [if_neg c6] at H
  have c6b0 : (t238 == 0) = false := beq_eq_false_iff_ne.mpr c6
  have c6b1 : (t238 != 0) = true := bne_iff_ne.mpr c6
  simp only [Option.some.injEq, Prod.mk.injEq] at H
  obtain ⟨rfl, rfl, rfl⟩ := H
  go_enter Tryd.func81, Tryd.ntmps81
  go_wp2_with (first | ((with_reducible refine gate_dst (N := 4) rfl ?_); refine bxE 4 24 #[.int .i64 a0_0, .int .i64 a0_1, .slice A0_2 l0_2.length c0_2] (by rfl) (by rfl) (by first | (go_simp; done) | (go_simp; rfl)) ?_; intro gb235 hg w21 hbox hb; have BK235 := Bk.mk (hbox); have GE235 := eB w hg; replace HB := bS w hb; clear hb hbox hg) | ((with_reducible refine gate_dst (N := 5) rfl ?_); refine bxE 5 47 #[.int .i64 a1_0, .int .i64 a1_1, .int .i64 a1_2, .int .i64 a1_3, .int .i64 a1_4, .int .i64 a1_5, .int .i64 a1_6, .int .i64 a1_7, .slice A1_8 l1_8.length c1_8] (by rfl) (by rfl) (by first | (go_simp; done) | (go_simp; rfl)) ?_; intro gb236 hg w22 hbox hb; have BK236 := Bk.mk (hbox); have GE236 := eB w hg; have NB235_236 := nB gb235 hg; replace BK235 := kB gb235 hb; replace HB := bS w hb; clear hb hbox hg) | ((with_reducible refine gate_dst (N := 8) rfl ?_); refine bxE 8 103 #[.int .i64 0, .int .i64 0] (by rfl) (by rfl) (by first | (go_simp; done) | (go_simp; rfl)) ?_; intro gb237 hg w23 hbox hb; have BK237 := Bk.mk (hbox); have GE237 := eB w hg; have NB235_237 := nB gb235 hg; have NB236_237 := nB gb236 hg; replace BK235 := kB gb235 hb; replace BK236 := kB gb236 hb; replace HB := bS w hb; clear hb hbox hg; obtain ⟨hnb24, hnc24⟩ := nn NB235_236; obtain ⟨hnb25, hnc25⟩ := nn NB235_237; obtain ⟨hcz26_0, hcz26_1, hcz26_2, hfz26_0, hfz26_1, hfz26_2⟩ := cz3 BK235; obtain ⟨hnb27, hnc27⟩ := nn NB236_237; obtain ⟨hcz28_0, hcz28_1, hcz28_2, hcz28_3, hcz28_4, hcz28_5, hcz28_6, hcz28_7, hcz28_8, hfz28_0, hfz28_1, hfz28_2, hfz28_3, hfz28_4, hfz28_5, hfz28_6, hfz28_7, hfz28_8⟩ := cz9 BK236) | ((with_reducible refine gate_callee (f := 104) rfl ?_); refine goesLM (some 15) rfl rfl Tryd.func104 (by kernel_rfl) rfl #[.agg #[.int .i64 a0_0, .int .i64 a0_1, .slice A0_2 l0_2.length c0_2], .agg #[.int .i64 a1_0, .int .i64 a1_1, .int .i64 a1_2, .int .i64 a1_3, .int .i64 a1_4, .int .i64 a1_5, .int .i64 a1_6, .int .i64 a1_7, .slice A1_8 l1_8.length c1_8], .int .i64 a2, .int .i64 a3] rfl (by rfl) ?_; (with_reducible refine (course_stakeOf.calls k a0_0 a0_1 _ _ l0_2 a1_0 a1_1 a1_2 a1_3 a1_4 a1_5 a1_6 a1_7 _ _ l1_8 a2 a3 t238 _ ?side1 ?side2 ?side3 ?side4 A5.out).mono ?_); (case side1 => exact cP (Kd.C_below HR0_2.out HB.out)); (case side2 => exact HC0_2.out); (case side3 => exact cP (Kd.C_below HR1_8.out HB.out)); (case side4 => exact HC1_8.out); rintro e w29 ⟨rfl, hb⟩; refine ⟨_, rfl, ?_⟩; replace BK235 := kB gb235 hb; replace BK236 := kB gb236 hb; replace BK237 := kB gb237 hb; replace HB := bS w hb; (try clear hb); obtain ⟨hcz30_0, hcz30_1, hfz30_0, hfz30_1⟩ := cz2 BK237))
  all_goals (refine bodyPost_ret (results_ct rfl _ _ gb237 103 #[.int .i64 0, .int .i64 0] (0, 0) _ rfl (bko gb237 (by rfl)) Tryd.underlying103 rfl (by kernel_rfl)) rfl ?_; exact ⟨by first | rfl | (simp [errW_none, errW_some] <;> rfl) | (simp [*, errW_none, errW_some] <;> rfl), bw w⟩)
def course_core.f (a0_0 : Int) (a0_1 : Int) (a0_2 : Int) (a0_3 : Int) (a0_4 : Int) (a0_5 : Int) (a0_6 : Int) (a0_7 : Int) (l0_8 : List (S71)) (a1_0 : Int) (a1_1 : Int) (a1_2 : Int) (a1_3 : Int) (a1_4 : Int) (a2_0 : Int) (a2_1 : Int) : Option (Int × Int) := some (mx 0 (wrap64 ((wrap64 ((wrap64 (a1_2 - a0_6)) - a2_1)) - a1_4)), wrap64 ((wrap64 (a1_2 - a0_6)) - a2_0))
set_option maxHeartbeats 8000000 in
set_option maxRecDepth 100000 in
theorem course_core.calls (a0_0 : Int) (a0_1 : Int) (a0_2 : Int) (a0_3 : Int) (a0_4 : Int) (a0_5 : Int) (a0_6 : Int) (a0_7 : Int) (A0_8 : Option Addr) (c0_8 : Nat) (l0_8 : List (S71)) (a1_0 : Int) (a1_1 : Int) (a1_2 : Int) (a1_3 : Int) (a1_4 : Int) (a2_0 : Int) (a2_1 : Int) (r1 : Int) (r2 : Int) (w : World) (hr0_8 : Kd.C k71 w A0_8 l0_8.length l0_8) (hc0_8 : l0_8.length ≤ c0_8) (h : course_core.f a0_0 a0_1 a0_2 a0_3 a0_4 a0_5 a0_6 a0_7 l0_8 a1_0 a1_1 a1_2 a1_3 a1_4 a2_0 a2_1 = some (r1, r2)) :
  Calls Tryd.prog 82 #[.agg #[.int .i64 a0_0, .int .i64 a0_1, .int .i64 a0_2, .int .i64 a0_3, .int .i64 a0_4, .int .i64 a0_5, .int .i64 a0_6, .int .i64 a0_7, .slice A0_8 l0_8.length c0_8], .agg #[.int .i64 a1_0, .int .i64 a1_1, .int .i64 a1_2, .int .i64 a1_3, .int .i64 a1_4], .agg #[.int .i64 a2_0, .int .i64 a2_1]] w fun e w' => e = .returned (.agg #[.int .i64 r1, .int .i64 r2]) ∧ Below w.heap.size w w' := by
 have hu47 := Tryd.underlying47
 have hu71 := Tryd.underlying71
 have hu103 := Tryd.underlying103
 have HR0_8 := Aside0.mk (hr0_8)
 have HC0_8 := Aside0.mk (hc0_8)
 clear hr0_8 hc0_8
 have HB := Bw.mk (Below.refl w.heap.size w)
 have H : (some (mx 0 (wrap64 ((wrap64 ((wrap64 (a1_2 - a0_6)) - a2_1)) - a1_4)), wrap64 ((wrap64 (a1_2 - a0_6)) - a2_0))) = some (r1, r2) := h
 clear h
 obtain ⟨ji4, hji4⟩ : ∃ j_ : Int, (mx 0 (wrap64 ((wrap64 ((wrap64 (a1_2 - a0_6)) - a2_1)) - a1_4))) = j_ := ⟨_, rfl⟩
 replace H : (some (ji4, wrap64 ((wrap64 (a1_2 - a0_6)) - a2_0))) = some (r1, r2) := by first | (rw [hji4] at H; exact H) | (simp only [hji4] at H ⊢; exact H)
 (try (have hji4l : 0 ≤ ji4 := by (rw [← hji4]; unfold mx; (repeat' split) <;> omega)))
 (try (have hji4m : 0 ≤ ji4 := by omega))
 have hji4_ : (if 0 < (wrap64 ((wrap64 ((wrap64 (a1_2 - a0_6)) - a2_1)) - a1_4)) then (wrap64 ((wrap64 ((wrap64 (a1_2 - a0_6)) - a2_1)) - a1_4)) else 0) = ji4 := hji4
 simp only [Option.some.injEq, Prod.mk.injEq] at H
 obtain ⟨rfl, rfl⟩ := H
 go_enter Tryd.func82, Tryd.ntmps82
 go_wp2_with (first | ((with_reducible refine gate_dst (N := 3) rfl ?_); refine bxE 3 47 #[.int .i64 a0_0, .int .i64 a0_1, .int .i64 a0_2, .int .i64 a0_3, .int .i64 a0_4, .int .i64 a0_5, .int .i64 a0_6, .int .i64 a0_7, .slice A0_8 l0_8.length c0_8] (by rfl) (by rfl) (by first | (go_simp; done) | (go_simp; rfl)) ?_; intro gb242 hg w5 hbox hb; have BK242 := Bk.mk (hbox); have GE242 := eB w hg; replace HB := bS w hb; clear hb hbox hg) | ((with_reducible refine gate_dst (N := 4) rfl ?_); refine bxE 4 71 #[.int .i64 a1_0, .int .i64 a1_1, .int .i64 a1_2, .int .i64 a1_3, .int .i64 a1_4] (by rfl) (by rfl) (by first | (go_simp; done) | (go_simp; rfl)) ?_; intro gb243 hg w6 hbox hb; have BK243 := Bk.mk (hbox); have GE243 := eB w hg; have NB242_243 := nB gb242 hg; replace BK242 := kB gb242 hb; replace HB := bS w hb; clear hb hbox hg) | ((with_reducible refine gate_dst (N := 5) rfl ?_); refine bxE 5 103 #[.int .i64 a2_0, .int .i64 a2_1] (by rfl) (by rfl) (by first | (go_simp; done) | (go_simp; rfl)) ?_; intro gb244 hg w7 hbox hb; have BK244 := Bk.mk (hbox); have GE244 := eB w hg; have NB242_244 := nB gb242 hg; have NB243_244 := nB gb243 hg; replace BK242 := kB gb242 hb; replace BK243 := kB gb243 hb; replace HB := bS w hb; clear hb hbox hg) | ((with_reducible refine gate_dst (N := 6) rfl ?_); refine bxE 6 103 #[.int .i64 0, .int .i64 0] (by rfl) (by rfl) (by first | (go_simp; done) | (go_simp; rfl)) ?_; intro gb245 hg w8 hbox hb; have BK245 := Bk.mk (hbox); have GE245 := eB w hg; have NB242_245 := nB gb242 hg; have NB243_245 := nB gb243 hg; have NB244_245 := nB gb244 hg; replace BK242 := kB gb242 hb; replace BK243 := kB gb243 hb; replace BK244 := kB gb244 hb; replace HB := bS w hb; clear hb hbox hg; obtain ⟨hnc9, hnb9⟩ := nn NB242_243; obtain ⟨hnb10, hnc10⟩ := nn NB243_244; obtain ⟨hnb11, hnc11⟩ := nn NB243_245; obtain ⟨hcz12_0, hcz12_1, hcz12_2, hcz12_3, hcz12_4, hfz12_0, hfz12_1, hfz12_2, hfz12_3, hfz12_4⟩ := cz5 BK243; obtain ⟨hnb13, hnc13⟩ := nn NB242_244; obtain ⟨hnb14, hnc14⟩ := nn NB242_245; obtain ⟨hcz15_0, hcz15_1, hcz15_2, hcz15_3, hcz15_4, hcz15_5, hcz15_6, hcz15_7, hcz15_8, hfz15_0, hfz15_1, hfz15_2, hfz15_3, hfz15_4, hfz15_5, hfz15_6, hfz15_7, hfz15_8⟩ := cz9 BK242; obtain ⟨hnb16, hnc16⟩ := nn NB244_245; obtain ⟨hcz17_0, hcz17_1, hfz17_0, hfz17_1⟩ := cz2 BK244; obtain ⟨hcz18_0, hcz18_1, hfz18_0, hfz18_1⟩ := cz2 BK245))
 all_goals (refine bodyPost_ret (results_cell_row rfl _ _ gb245 103 #[.int .i64 ji4, .int .i64 (wrap64 ((wrap64 (a1_2 - a0_6)) - a2_0))] (0, 0) _ rfl (bko gb245 (by rfl)) Tryd.underlying103 rfl (by kernel_rfl)) rfl ?_; exact ⟨by first | rfl | (simp [errW_none, errW_some] <;> rfl) | (simp only [← hji4]; first | rfl | (simp [errW_none, errW_some] <;> rfl)) | (simp [*, errW_none, errW_some] <;> rfl), bw w⟩)
def course_Core.f (k : Nat) (a0_0 : Int) (a0_1 : Int) (l0_2 : List (S26)) (a1_0 : Int) (a1_1 : Int) (a1_2 : Int) (a1_3 : Int) (a1_4 : Int) (a1_5 : Int) (a1_6 : Int) (a1_7 : Int) (l1_8 : List (S71)) (a2 : Int) (a3 : Int) : Option (Int × Int × Int) := (course_look.f k a0_0 a0_1 l0_2 a1_0 a1_1 a1_2 a1_3 a1_4 a1_5 a1_6 a1_7 l1_8 a2 a3).bind fun bt249 => (if bt249.2.2 = 0 then (if 0 ≤ a2 then (if a2 < (l1_8.length : Int) then ((course_core.f a1_0 a1_1 a1_2 a1_3 a1_4 a1_5 a1_6 a1_7 l1_8 ((rd_T71 l1_8 a2).f0) ((rd_T71 l1_8 a2).f1) ((rd_T71 l1_8 a2).f2) ((rd_T71 l1_8 a2).f3) ((rd_T71 l1_8 a2).f4) bt249.1 bt249.2.1).bind fun bt254 => (some (bt254.1, bt254.2, 0))) else (none)) else (none)) else (some (0, 0, bt249.2.2)))
theorem course_Core.mono : ∀ a0 a1 a2 a3 a4 a5 a6 a7 a8 a9 a10 a11 a12 a13 k, LeO (course_Core.f k a0 a1 a2 a3 a4 a5 a6 a7 a8 a9 a10 a11 a12 a13) (course_Core.f (k + 1) a0 a1 a2 a3 a4 a5 a6 a7 a8 a9 a10 a11 a12 a13) := by
 intro a0 a1 a2 a3 a4 a5 a6 a7 a8 a9 a10 a11 a12 a13 k
 unfold course_Core.f
 repeat' first
   | (with_reducible exact course_look.mono _ _ _ _ _ _ _ _ _ _ _ _ _ _ _)
   | (with_reducible exact LeO.refl _)
   | (with_reducible exact LeO.none _)
   | (with_reducible refine LeO.ite ?_ ?_)
   | (with_reducible refine LeO.bind ?_ (fun _ => ?_))
   | exact course_look.mono _ _ _ _ _ _ _ _ _ _ _ _ _ _ _
   | exact LeO.none _
   | refine LeO.ite ?_ ?_
   | refine LeO.bind ?_ (fun _ => ?_)
def course_Core.T4 : Bool × List (List Nat × List Nat) := (true, [([], []), ([], []), ([1], [1]), ([], []), ([2, 3], [2, 3]), ([4], [4]), ([], []), ([0, 5, 6], [0, 5, 6]), ([], []), ([8, 7, 7, 0, 1, 2, 3, 4, 5, 6, 7, 8], [7, 8])])
def course_Core.B4 : List Nat := [0, 0, 2, 0, 14, 30, 0, 127, 0, 511]
theorem course_Core.tab4 : rtab .any (opsOf Tryd.f27 4) = course_Core.T4 := by kernel_rfl
theorem course_Core.bits4 : waitsOk course_Core.T4.2 course_Core.B4 = true := by kernel_rfl
set_option maxHeartbeats 8000000 in
set_option maxRecDepth 100000 in
theorem course_Core.calls (k : Nat) (a0_0 : Int) (a0_1 : Int) (A0_2 : Option Addr) (c0_2 : Nat) (l0_2 : List (S26)) (a1_0 : Int) (a1_1 : Int) (a1_2 : Int) (a1_3 : Int) (a1_4 : Int) (a1_5 : Int) (a1_6 : Int) (a1_7 : Int) (A1_8 : Option Addr) (c1_8 : Nat) (l1_8 : List (S71)) (a2 : Int) (a3 : Int) (r1 : Int) (r2 : Int) (r3 : Int) (w : World) (hr0_2 : Kd.C k26 w A0_2 l0_2.length l0_2) (hc0_2 : l0_2.length ≤ c0_2) (hr1_8 : Kd.C k71 w A1_8 l1_8.length l1_8) (hc1_8 : l1_8.length ≤ c1_8) (h : course_Core.f k a0_0 a0_1 l0_2 a1_0 a1_1 a1_2 a1_3 a1_4 a1_5 a1_6 a1_7 l1_8 a2 a3 = some (r1, r2, r3)) :
  Calls Tryd.prog 27 #[.agg #[.int .i64 a0_0, .int .i64 a0_1, .slice A0_2 l0_2.length c0_2], .agg #[.int .i64 a1_0, .int .i64 a1_1, .int .i64 a1_2, .int .i64 a1_3, .int .i64 a1_4, .int .i64 a1_5, .int .i64 a1_6, .int .i64 a1_7, .slice A1_8 l1_8.length c1_8], .int .i64 a2, .int .i64 a3] w fun e w' => e = .returned (.tuple #[.agg #[.int .i64 r1, .int .i64 r2], .int .i64 r3]) ∧ Below w.heap.size w w' := by
 have hu24 := Tryd.underlying24
 have hu47 := Tryd.underlying47
 have hu40 := Tryd.underlying40
 have hu103 := Tryd.underlying103
 have hu71 := Tryd.underlying71
 have HR0_2 := Aside0.mk (hr0_2)
 have HC0_2 := Aside0.mk (hc0_2)
 clear hr0_2 hc0_2
 have HR1_8 := Aside0.mk (hr1_8)
 have HC1_8 := Aside0.mk (hc1_8)
 clear hr1_8 hc1_8
 have HB := Bw.mk (Below.refl w.heap.size w)
 have H : ((course_look.f k a0_0 a0_1 l0_2 a1_0 a1_1 a1_2 a1_3 a1_4 a1_5 a1_6 a1_7 l1_8 a2 a3).bind fun bt249 => (if bt249.2.2 = 0 then (if 0 ≤ a2 then (if a2 < (l1_8.length : Int) then ((course_core.f a1_0 a1_1 a1_2 a1_3 a1_4 a1_5 a1_6 a1_7 l1_8 ((rd_T71 l1_8 a2).f0) ((rd_T71 l1_8 a2).f1) ((rd_T71 l1_8 a2).f2) ((rd_T71 l1_8 a2).f3) ((rd_T71 l1_8 a2).f4) bt249.1 bt249.2.1).bind fun bt254 => (some (bt254.1, bt254.2, 0))) else (none)) else (none)) else (some (0, 0, bt249.2.2)))) = some (r1, r2, r3) := h
 clear h
 replace H := Option.bind_eq_some_iff.mp H
 obtain ⟨⟨t249, t250, t251⟩, A50, H⟩ := H
 have A5 := Aside0.mk (A50)
 clear A50
 by_cases c6 : t251 = 0
 ·
  rw [if_pos c6] at H
  have c6b0 : (t251 == 0) = true := beq_iff_eq.mpr c6
  have c6b1 : (t251 != 0) = false := bne_eq_false_iff_eq.mpr c6
  clear c6
  by_cases c7 : 0 ≤ a2
  ·
   rw [if_pos c7] at H
   have c7b0 : decide (0 ≤ a2) = true := decide_eq_true c7
   clear c7
   by_cases c8 : a2 < (l1_8.length : Int)
   ·
    rw [if_pos c8] at H
    have c8b0 : decide (a2 < (l1_8.length : Int)) = true := decide_eq_true c8
    clear c8
    replace H := Option.bind_eq_some_iff.mp H
    obtain ⟨⟨t254, t255⟩, A90, H⟩ := H
    have A9 := Aside0.mk (A90)
    clear A90
    simp only [Option.some.injEq, Prod.mk.injEq] at H
    obtain ⟨rfl, rfl, rfl⟩ := H
    go_enter Tryd.func27, Tryd.ntmps27
    try go_wp2_with (first | ((with_reducible refine gate_dst (N := 4) rfl ?_); refine bxE 4 24 #[.int .i64 a0_0, .int .i64 a0_1, .slice A0_2 l0_2.length c0_2] (by rfl) (by rfl) (by first | (go_simp; done) | (go_simp; rfl)) ?_; intro gb246 hg w10 hbox hb; have BK246 := Bk.mk (hbox); have GE246 := eB w hg; replace HB := bS w hb; clear hb hbox hg) | ((with_reducible refine gate_dst (N := 5) rfl ?_); refine bxE 5 47 #[.int .i64 a1_0, .int .i64 a1_1, .int .i64 a1_2, .int .i64 a1_3, .int .i64 a1_4, .int .i64 a1_5, .int .i64 a1_6, .int .i64 a1_7, .slice A1_8 l1_8.length c1_8] (by rfl) (by rfl) (by first | (go_simp; done) | (go_simp; rfl)) ?_; intro gb247 hg w11 hbox hb; have BK247 := Bk.mk (hbox); have GE247 := eB w hg; have NB246_247 := nB gb246 hg; replace BK246 := kB gb246 hb; replace HB := bS w hb; clear hb hbox hg) | ((with_reducible refine gate_dst (N := 8) rfl ?_); refine bxE 8 40 #[.int .i64 0, .int .i64 0] (by rfl) (by rfl) (by first | (go_simp; done) | (go_simp; rfl)) ?_; intro gb248 hg w12 hbox hb; have BK248 := Bk.mk (hbox); have GE248 := eB w hg; have NB246_248 := nB gb246 hg; have NB247_248 := nB gb247 hg; replace BK246 := kB gb246 hb; replace BK247 := kB gb247 hb; replace HB := bS w hb; clear hb hbox hg; obtain ⟨hnb13, hnc13⟩ := nn NB246_247; obtain ⟨hnb14, hnc14⟩ := nn NB246_248; obtain ⟨hcz15_0, hcz15_1, hcz15_2, hfz15_0, hfz15_1, hfz15_2⟩ := cz3 BK246; obtain ⟨hnb16, hnc16⟩ := nn NB247_248; obtain ⟨hcz17_0, hcz17_1, hcz17_2, hcz17_3, hcz17_4, hcz17_5, hcz17_6, hcz17_7, hcz17_8, hfz17_0, hfz17_1, hfz17_2, hfz17_3, hfz17_4, hfz17_5, hfz17_6, hfz17_7, hfz17_8⟩ := cz9 BK247) | ((with_reducible refine gate_callee (f := 81) rfl ?_); refine goesLM (some 18) rfl rfl Tryd.func81 (by kernel_rfl) rfl #[.agg #[.int .i64 a0_0, .int .i64 a0_1, .slice A0_2 l0_2.length c0_2], .agg #[.int .i64 a1_0, .int .i64 a1_1, .int .i64 a1_2, .int .i64 a1_3, .int .i64 a1_4, .int .i64 a1_5, .int .i64 a1_6, .int .i64 a1_7, .slice A1_8 l1_8.length c1_8], .int .i64 a2, .int .i64 a3] rfl (by rfl) ?_; (with_reducible refine (course_look.calls k a0_0 a0_1 _ _ l0_2 a1_0 a1_1 a1_2 a1_3 a1_4 a1_5 a1_6 a1_7 _ _ l1_8 a2 a3 t249 t250 t251 _ ?side1 ?side2 ?side3 ?side4 A5.out).mono ?_); (case side1 => exact cP (Kd.C_below HR0_2.out HB.out)); (case side2 => exact HC0_2.out); (case side3 => exact cP (Kd.C_below HR1_8.out HB.out)); (case side4 => exact HC1_8.out); rintro e w18 ⟨rfl, hb⟩; refine ⟨_, rfl, ?_⟩; replace BK246 := kB gb246 hb; replace BK247 := kB gb247 hb; replace BK248 := kB gb248 hb; replace HB := bS w hb; (try clear hb)) | ((with_reducible refine gate_dst (N := 10) rfl ?_); refine bxE 10 103 #[.int .i64 0, .int .i64 0] (by rfl) (by rfl) (by first | (go_simp; done) | (go_simp; rfl)) ?_; intro gb252 hg w19 hbox hb; have BK252 := Bk.mk (hbox); have GE252 := eB w hg; have NB246_252 := nB gb246 hg; have NB247_252 := nB gb247 hg; have NB248_252 := nB gb248 hg; replace BK246 := kB gb246 hb; replace BK247 := kB gb247 hb; replace BK248 := kB gb248 hb; replace HB := bS w hb; clear hb hbox hg; obtain ⟨hnc20, hnb20⟩ := nn NB246_252; obtain ⟨hnc21, hnb21⟩ := nn NB247_252; obtain ⟨hnc22, hnb22⟩ := nn NB248_252; obtain ⟨hcz23_0, hcz23_1, hfz23_0, hfz23_1⟩ := cz2 BK252))
    have n0_ : Bk ((w19.setCell ⟨gb252, 0, none⟩ (.int .i64 t249)).setCell ⟨gb252, 1, none⟩ (.int .i64 t250)) gb246 (.cells #[.int .i64 a0_0, .int .i64 a0_1, .slice A0_2 l0_2.length c0_2] 24 (0, 0)) := ⟨bko gb246 (by rfl)⟩
    have n1_ : Bk ((w19.setCell ⟨gb252, 0, none⟩ (.int .i64 t249)).setCell ⟨gb252, 1, none⟩ (.int .i64 t250)) gb247 (.cells #[.int .i64 a1_0, .int .i64 a1_1, .int .i64 a1_2, .int .i64 a1_3, .int .i64 a1_4, .int .i64 a1_5, .int .i64 a1_6, .int .i64 a1_7, .slice A1_8 l1_8.length c1_8] 47 (0, 0)) := ⟨bko gb247 (by rfl)⟩
    have n2_ : Bk ((w19.setCell ⟨gb252, 0, none⟩ (.int .i64 t249)).setCell ⟨gb252, 1, none⟩ (.int .i64 t250)) gb248 (.cells #[.int .i64 0, .int .i64 0] 40 (0, 0)) := ⟨bko gb248 (by rfl)⟩
    have n3_ : Bk ((w19.setCell ⟨gb252, 0, none⟩ (.int .i64 t249)).setCell ⟨gb252, 1, none⟩ (.int .i64 t250)) gb252 (.cells #[.int .i64 t249, .int .i64 t250] 103 (0, 0)) := ⟨bko gb252 (by rfl)⟩
    have n4_ : Bw w ((w19.setCell ⟨gb252, 0, none⟩ (.int .i64 t249)).setCell ⟨gb252, 1, none⟩ (.int .i64 t250)) := inferInstance
    (try clear BK246)
    (try clear BK247)
    (try clear BK248)
    (try clear BK252)
    (try clear HB)
    generalize ((w19.setCell ⟨gb252, 0, none⟩ (.int .i64 t249)).setCell ⟨gb252, 1, none⟩ (.int .i64 t250)) = w24 at n0_ n1_ n2_ n3_ n4_ ⊢
    have BK246 := n0_
    have BK247 := n1_
    have BK248 := n2_
    have BK252 := n3_
    have HB := n4_
    clear n0_ n1_ n2_ n3_ n4_
    have n0_ := Bk.mk (blk_drew BK246.out)
    have n1_ := Bk.mk (blk_drew BK247.out)
    have n2_ := Bk.mk (blk_drew BK248.out)
    have n3_ := Bk.mk (blk_drew BK252.out)
    have n4_ := Bw.mk (below_drew1 HB.out)
    clear BK246 BK247 BK248 BK252 HB
    have BK246 := n0_
    have BK247 := n1_
    have BK248 := n2_
    have BK252 := n3_
    have HB := n4_
    clear n0_ n1_ n2_ n3_ n4_
    have p253 : 0 ≤ (a2 : Int) := of_decide_eq_true (by first | (with_reducible assumption) | assumption)
    have q253 : a2 < (l1_8.length : Int) := of_decide_eq_true (by first | (with_reducible assumption) | assumption)
    obtain ⟨ad253, e253, hx253_0, hx253_1, hx253_2, hx253_3, hx253_4⟩ := at_T71 HR1_8.out a2 p253 q253
    have hw253_4 := hx253_4
    have hw253_3 := hx253_3
    have hw253_2 := hx253_2
    have hw253_1 := hx253_1
    have hw253_0 := hx253_0
    cases e253
    replace hx253_0 := cB HB hx253_0
    replace hx253_1 := cB HB hx253_1
    replace hx253_2 := cB HB hx253_2
    replace hx253_3 := cB HB hx253_3
    replace hx253_4 := cB HB hx253_4
    replace p253 := eq_true p253
    replace q253 := eq_true q253
    refine start_ (n := 10) (S := fun w' => w'.cell? ⟨gb247, 0, none⟩ = some (.int .i64 a1_0) ∧ w'.cell? ⟨gb247, 1, none⟩ = some (.int .i64 a1_1) ∧ w'.cell? ⟨gb247, 2, none⟩ = some (.int .i64 a1_2) ∧ w'.cell? ⟨gb247, 3, none⟩ = some (.int .i64 a1_3) ∧ w'.cell? ⟨gb247, 4, none⟩ = some (.int .i64 a1_4) ∧ w'.cell? ⟨gb247, 5, none⟩ = some (.int .i64 a1_5) ∧ w'.cell? ⟨gb247, 6, none⟩ = some (.int .i64 a1_6) ∧ w'.cell? ⟨gb247, 7, none⟩ = some (.int .i64 a1_7) ∧ w'.cell? ⟨gb247, 8, none⟩ = some (.slice (some ad253) l1_8.length c1_8) ∧ w'.cell? ⟨gb252, 0, none⟩ = some (.int .i64 t249) ∧ w'.cell? ⟨gb252, 1, none⟩ = some (.int .i64 t250) ∧ w'.cell? (ad253.add ((a2).toNat * 5)) = some (.int .i64 ((rd_T71 l1_8 a2).f0)) ∧ w'.cell? ⟨(ad253.add ((a2).toNat * 5)).block, (ad253.add ((a2).toNat * 5)).off + 1, none⟩ = some (.int .i64 ((rd_T71 l1_8 a2).f1)) ∧ w'.cell? ⟨(ad253.add ((a2).toNat * 5)).block, (ad253.add ((a2).toNat * 5)).off + 2, none⟩ = some (.int .i64 ((rd_T71 l1_8 a2).f2)) ∧ w'.cell? ⟨(ad253.add ((a2).toNat * 5)).block, (ad253.add ((a2).toNat * 5)).off + 3, none⟩ = some (.int .i64 ((rd_T71 l1_8 a2).f3)) ∧ w'.cell? ⟨(ad253.add ((a2).toNat * 5)).block, (ad253.add ((a2).toNat * 5)).off + 4, none⟩ = some (.int .i64 ((rd_T71 l1_8 a2).f4))) (ds := []) #[false, false, false, false, false, false, false, false, false, false] (by kernel_rfl) rfl rfl ⟨bc BK247 0, bc BK247 1, bc BK247 2, bc BK247 3, bc BK247 4, bc BK247 5, bc BK247 6, bc BK247 7, bc BK247 8, bc BK252 0, bc BK252 1, ((HB.out.cell (World.block_lt_of_cell? w _ hw253_0)).trans hw253_0), ((HB.out.cell (World.block_lt_of_cell? w _ hw253_1)).trans hw253_1), ((HB.out.cell (World.block_lt_of_cell? w _ hw253_2)).trans hw253_2), ((HB.out.cell (World.block_lt_of_cell? w _ hw253_3)).trans hw253_3), ((HB.out.cell (World.block_lt_of_cell? w _ hw253_4)).trans hw253_4)⟩ (fun hHeld => ?_); refine with_tabW course_Core.tab4 course_Core.bits4 (fun HT_ HW_ => ?_)
    generalize w24.drew = w25 at BK246 BK247 BK248 BK252 HB hx253_0 hx253_1 hx253_2 hx253_3 hx253_4 hHeld ⊢
    refine pS 1 (some 26) rfl rfl (any_of HT_.out (by kernel_rfl)) (fun _ _ _ h => h) (by rfl) (fun w' => by go_simp; with_reducible rfl) (by simp only [Act.put, List.setIfInBounds_toArray, List.set_cons_zero, List.set_cons_succ, i64_w]; rfl) ?_
    refine pS 3 (some 28) rfl rfl (any_of HT_.out (by kernel_rfl)) (fun _ _ _ h => h) (by rfl) (fun w' => by go_simp; with_reducible rfl) (by simp only [Act.put, List.setIfInBounds_toArray, List.set_cons_zero, List.set_cons_succ, i64_w]; rfl) ?_
    refine tS 0 (some 25) rfl rfl (take_ofW HT_.out HW_.out (by kernel_rfl)) (fun _ _ _ h => h) (by rfl) (by rintro w' ⟨s0, s1, s2, s3, s4, s5, s6, s7, s8, s9, s10, s11, s12, s13, s14, s15⟩; go_simp; with_reducible rfl) hHeld (by simp only [Act.put, List.setIfInBounds_toArray, List.set_cons_zero, List.set_cons_succ, i64_w]; rfl) ?_
    refine tS 2 (some 27) rfl rfl (take_ofW HT_.out HW_.out (by kernel_rfl)) (fun _ _ _ h => h) (by rfl) (by rintro w' ⟨s0, s1, s2, s3, s4, s5, s6, s7, s8, s9, s10, s11, s12, s13, s14, s15⟩; go_simp; with_reducible rfl) hHeld (by simp only [Act.put, List.setIfInBounds_toArray, List.set_cons_zero, List.set_cons_succ, i64_w]; rfl) ?_
    refine pS 4 (some 29) rfl rfl (any_of HT_.out (by kernel_rfl)) (fun _ _ _ h => h) (by rfl) (fun w' => by go_simp; with_reducible rfl) (by simp only [Act.put, List.setIfInBounds_toArray, List.set_cons_zero, List.set_cons_succ, i64_w]; rfl) ?_
    refine tS 5 (some 30) rfl rfl (take_ofW HT_.out HW_.out (by kernel_rfl)) (fun _ _ _ h => h) (by rfl) (by rintro w' ⟨s0, s1, s2, s3, s4, s5, s6, s7, s8, s9, s10, s11, s12, s13, s14, s15⟩; go_simp; with_reducible rfl) hHeld (by simp only [Act.put, List.setIfInBounds_toArray, List.set_cons_zero, List.set_cons_succ, i64_w]; rfl) ?_
    refine tS 6 (some 31) rfl rfl (take_ofW HT_.out HW_.out (by kernel_rfl)) (fun _ _ _ h => h) (by rfl) (by rintro w' ⟨s0, s1, s2, s3, s4, s5, s6, s7, s8, s9, s10, s11, s12, s13, s14, s15⟩; go_simp; with_reducible rfl) hHeld (by simp only [Act.put, List.setIfInBounds_toArray, List.set_cons_zero, List.set_cons_succ, i64_w]; rfl) ?_
    refine join_ (σ := Nat) 1 #[true, true, true, true, true, true, true, true, true, false] (fun s_ => [(32, .agg #[.int .i64 t254, .int .i64 t255]), (12, .pointer (some ⟨s_, 0, none⟩))]) (fun s_ w' => (w'.cell? ⟨gb247, 0, none⟩ = some (.int .i64 a1_0) ∧ w'.cell? ⟨gb247, 1, none⟩ = some (.int .i64 a1_1) ∧ w'.cell? ⟨gb247, 2, none⟩ = some (.int .i64 a1_2) ∧ w'.cell? ⟨gb247, 3, none⟩ = some (.int .i64 a1_3) ∧ w'.cell? ⟨gb247, 4, none⟩ = some (.int .i64 a1_4) ∧ w'.cell? ⟨gb247, 5, none⟩ = some (.int .i64 a1_5) ∧ w'.cell? ⟨gb247, 6, none⟩ = some (.int .i64 a1_6) ∧ w'.cell? ⟨gb247, 7, none⟩ = some (.int .i64 a1_7) ∧ w'.cell? ⟨gb247, 8, none⟩ = some (.slice (some ad253) l1_8.length c1_8) ∧ w'.cell? ⟨gb252, 0, none⟩ = some (.int .i64 t249) ∧ w'.cell? ⟨gb252, 1, none⟩ = some (.int .i64 t250) ∧ w'.cell? (ad253.add ((a2).toNat * 5)) = some (.int .i64 ((rd_T71 l1_8 a2).f0)) ∧ w'.cell? ⟨(ad253.add ((a2).toNat * 5)).block, (ad253.add ((a2).toNat * 5)).off + 1, none⟩ = some (.int .i64 ((rd_T71 l1_8 a2).f1)) ∧ w'.cell? ⟨(ad253.add ((a2).toNat * 5)).block, (ad253.add ((a2).toNat * 5)).off + 2, none⟩ = some (.int .i64 ((rd_T71 l1_8 a2).f2)) ∧ w'.cell? ⟨(ad253.add ((a2).toNat * 5)).block, (ad253.add ((a2).toNat * 5)).off + 3, none⟩ = some (.int .i64 ((rd_T71 l1_8 a2).f3)) ∧ w'.cell? ⟨(ad253.add ((a2).toNat * 5)).block, (ad253.add ((a2).toNat * 5)).off + 4, none⟩ = some (.int .i64 ((rd_T71 l1_8 a2).f4))) ∧ (w'.heap[gb246]? = some (.cells #[.int .i64 a0_0, .int .i64 a0_1, .slice A0_2 l0_2.length c0_2] 24 (0, 0))) ∧ (w'.heap[gb247]? = some (.cells #[.int .i64 a1_0, .int .i64 a1_1, .int .i64 a1_2, .int .i64 a1_3, .int .i64 a1_4, .int .i64 a1_5, .int .i64 a1_6, .int .i64 a1_7, .slice (some ad253) l1_8.length c1_8] 47 (0, 0))) ∧ (w'.heap[gb248]? = some (.cells #[.int .i64 0, .int .i64 0] 40 (0, 0))) ∧ (w'.heap[gb252]? = some (.cells #[.int .i64 t249, .int .i64 t250] 103 (0, 0))) ∧ (w'.heap[s_]? = some (.cells #[.int .i64 0, .int .i64 0] 103 (0, 0))) ∧ (w.heap.size ≤ s_) ∧ (w.heap.size ≤ s_) ∧ (gb246 ≠ s_) ∧ (s_ ≠ gb246) ∧ (gb247 ≠ s_) ∧ (s_ ≠ gb247) ∧ (gb248 ≠ s_) ∧ (s_ ≠ gb248) ∧ (gb252 ≠ s_) ∧ (s_ ≠ gb252) ∧ (Below w.heap.size w w')) ?_ ?_
    rotate_left
    ·
     intro hCont
     refine two_ (i := 7) (j := 8) (Ni := some 32) (Nj := some 12) #[true, true, true, true, true, true, true, true, false, false] #[true, true, true, true, true, true, true, false, true, false] rfl rfl rfl rfl (two_of HT_.out (by kernel_rfl)) (by decide) (by decide) (fun K hK => ?_) (fun K hK => ?_)
     ·
      skip
      refine goesM Tryd.func82 (by kernel_rfl) rfl #[.agg #[.int .i64 a1_0, .int .i64 a1_1, .int .i64 a1_2, .int .i64 a1_3, .int .i64 a1_4, .int .i64 a1_5, .int .i64 a1_6, .int .i64 a1_7, .slice (some ad253) l1_8.length c1_8], .agg #[.int .i64 ((rd_T71 l1_8 a2).f0), .int .i64 ((rd_T71 l1_8 a2).f1), .int .i64 ((rd_T71 l1_8 a2).f2), .int .i64 ((rd_T71 l1_8 a2).f3), .int .i64 ((rd_T71 l1_8 a2).f4)], .agg #[.int .i64 t249, .int .i64 t250]] (by rfl) rfl rfl (by rfl) ?_
      with_reducible refine (course_core.calls a1_0 a1_1 a1_2 a1_3 a1_4 a1_5 a1_6 a1_7 _ _ l1_8 ((rd_T71 l1_8 a2).f0) ((rd_T71 l1_8 a2).f1) ((rd_T71 l1_8 a2).f2) ((rd_T71 l1_8 a2).f3) ((rd_T71 l1_8 a2).f4) t249 t250 t254 t255 _ ?side1 ?side2 A9.out).mono ?_
      (case side1 => exact cP (Kd.C_below HR1_8.out HB.out))
      (case side2 => exact HC1_8.out)
      rintro e w26 ⟨rfl, hb⟩
      refine ⟨_, rfl, ?_⟩
      replace BK246 := kB gb246 hb
      replace BK247 := kB gb247 hb
      replace BK248 := kB gb248 hb
      replace BK252 := kB gb252 hb
      replace HB := bS w hb
      (try clear hb)
      refine hK.out _ _ ⟨bc BK247 0, bc BK247 1, bc BK247 2, bc BK247 3, bc BK247 4, bc BK247 5, bc BK247 6, bc BK247 7, bc BK247 8, bc BK252 0, bc BK252 1, ((HB.out.cell (World.block_lt_of_cell? w _ hw253_0)).trans hw253_0), ((HB.out.cell (World.block_lt_of_cell? w _ hw253_1)).trans hw253_1), ((HB.out.cell (World.block_lt_of_cell? w _ hw253_2)).trans hw253_2), ((HB.out.cell (World.block_lt_of_cell? w _ hw253_3)).trans hw253_3), ((HB.out.cell (World.block_lt_of_cell? w _ hw253_4)).trans hw253_4)⟩ (fun hHeld => ?_)
      clear hK K
      refine norm_ (a' := ?_) ?_ ?_
      rotate_left
      ·
       show Act.put _ (some 32) _ = _
       simp only [Act.put, List.setIfInBounds_toArray, List.set_cons_zero, List.set_cons_succ, i64_w]
       rfl
      refine one_ (i := 8) (N := some 12) #[true, true, true, true, true, true, true, true, true, false] rfl rfl (one_of HT_.out (by kernel_rfl)) (by decide) (fun K hK => ?_)
      refine box_step ?hg (N := 12) ?hd (cs := #[.int .i64 0, .int .i64 0]) (t := 103) ?hr ?_; (case hd => rfl); (case hg => rfl); (case hr => first | (go_simp; done) | (go_simp; rfl))
      intro gb256 hg w27 hbox hb
      have BK256 := Bk.mk (hbox)
      have GW256 := eB w hg
      have GE256 := eB w hg
      have NB246_256 := nB gb246 hg
      have NB256_246 := nB' gb246 hg
      have NB247_256 := nB gb247 hg
      have NB256_247 := nB' gb247 hg
      have NB248_256 := nB gb248 hg
      have NB256_248 := nB' gb248 hg
      have NB252_256 := nB gb252 hg
      have NB256_252 := nB' gb252 hg
      replace BK246 := kB gb246 hb
      replace BK247 := kB gb247 hb
      replace BK248 := kB gb248 hb
      replace BK252 := kB gb252 hb
      replace HB := bS w hb
      clear hb hbox hg
      refine hK.out _ _ ⟨bc BK247 0, bc BK247 1, bc BK247 2, bc BK247 3, bc BK247 4, bc BK247 5, bc BK247 6, bc BK247 7, bc BK247 8, bc BK252 0, bc BK252 1, ((HB.out.cell (World.block_lt_of_cell? w _ hw253_0)).trans hw253_0), ((HB.out.cell (World.block_lt_of_cell? w _ hw253_1)).trans hw253_1), ((HB.out.cell (World.block_lt_of_cell? w _ hw253_2)).trans hw253_2), ((HB.out.cell (World.block_lt_of_cell? w _ hw253_3)).trans hw253_3), ((HB.out.cell (World.block_lt_of_cell? w _ hw253_4)).trans hw253_4)⟩ (fun hHeld => ?_)
      clear hK K
      refine norm_ (a' := ?_) ?_ ?_
      rotate_left
      ·
       show Act.put _ (some 12) _ = _
       simp only [Act.put, List.setIfInBounds_toArray, List.set_cons_zero, List.set_cons_succ, i64_w]
       rfl
      exact norm_ (by simp only [putAll, Act.put, List.setIfInBounds_toArray, List.set_cons_zero, List.set_cons_succ]) (hCont (gb256) _ ⟨hHeld, (bk _ gb246), (bk _ gb247), (bk _ gb248), (bk _ gb252), (bk _ gb256), GW256.out, GE256.out, NB246_256.out, NB256_246.out, NB247_256.out, NB256_247.out, NB248_256.out, NB256_248.out, NB252_256.out, NB256_252.out, (bw w)⟩)
     ·
      skip
      refine box_step ?hg (N := 12) ?hd (cs := #[.int .i64 0, .int .i64 0]) (t := 103) ?hr ?_; (case hd => rfl); (case hg => rfl); (case hr => first | (go_simp; done) | (go_simp; rfl))
      intro gb256 hg w26 hbox hb
      have BK256 := Bk.mk (hbox)
      have GW256 := eB w hg
      have GE256 := eB w hg
      have NB246_256 := nB gb246 hg
      have NB256_246 := nB' gb246 hg
      have NB247_256 := nB gb247 hg
      have NB256_247 := nB' gb247 hg
      have NB248_256 := nB gb248 hg
      have NB256_248 := nB' gb248 hg
      have NB252_256 := nB gb252 hg
      have NB256_252 := nB' gb252 hg
      replace BK246 := kB gb246 hb
      replace BK247 := kB gb247 hb
      replace BK248 := kB gb248 hb
      replace BK252 := kB gb252 hb
      replace HB := bS w hb
      clear hb hbox hg
      refine hK.out _ _ ⟨bc BK247 0, bc BK247 1, bc BK247 2, bc BK247 3, bc BK247 4, bc BK247 5, bc BK247 6, bc BK247 7, bc BK247 8, bc BK252 0, bc BK252 1, ((HB.out.cell (World.block_lt_of_cell? w _ hw253_0)).trans hw253_0), ((HB.out.cell (World.block_lt_of_cell? w _ hw253_1)).trans hw253_1), ((HB.out.cell (World.block_lt_of_cell? w _ hw253_2)).trans hw253_2), ((HB.out.cell (World.block_lt_of_cell? w _ hw253_3)).trans hw253_3), ((HB.out.cell (World.block_lt_of_cell? w _ hw253_4)).trans hw253_4)⟩ (fun hHeld => ?_)
      clear hK K
      refine norm_ (a' := ?_) ?_ ?_
      rotate_left
      ·
       show Act.put _ (some 12) _ = _
       simp only [Act.put, List.setIfInBounds_toArray, List.set_cons_zero, List.set_cons_succ, i64_w]
       rfl
      refine one_ (i := 7) (N := some 32) #[true, true, true, true, true, true, true, true, true, false] rfl rfl (one_of HT_.out (by kernel_rfl)) (by decide) (fun K hK => ?_)
      refine goesM Tryd.func82 (by kernel_rfl) rfl #[.agg #[.int .i64 a1_0, .int .i64 a1_1, .int .i64 a1_2, .int .i64 a1_3, .int .i64 a1_4, .int .i64 a1_5, .int .i64 a1_6, .int .i64 a1_7, .slice (some ad253) l1_8.length c1_8], .agg #[.int .i64 ((rd_T71 l1_8 a2).f0), .int .i64 ((rd_T71 l1_8 a2).f1), .int .i64 ((rd_T71 l1_8 a2).f2), .int .i64 ((rd_T71 l1_8 a2).f3), .int .i64 ((rd_T71 l1_8 a2).f4)], .agg #[.int .i64 t249, .int .i64 t250]] (by rfl) rfl rfl (by rfl) ?_
      with_reducible refine (course_core.calls a1_0 a1_1 a1_2 a1_3 a1_4 a1_5 a1_6 a1_7 _ _ l1_8 ((rd_T71 l1_8 a2).f0) ((rd_T71 l1_8 a2).f1) ((rd_T71 l1_8 a2).f2) ((rd_T71 l1_8 a2).f3) ((rd_T71 l1_8 a2).f4) t249 t250 t254 t255 _ ?side1 ?side2 A9.out).mono ?_
      (case side1 => exact cP (Kd.C_below HR1_8.out HB.out))
      (case side2 => exact HC1_8.out)
      rintro e w27 ⟨rfl, hb⟩
      refine ⟨_, rfl, ?_⟩
      replace BK246 := kB gb246 hb
      replace BK247 := kB gb247 hb
      replace BK248 := kB gb248 hb
      replace BK252 := kB gb252 hb
      replace BK256 := kB gb256 hb
      replace HB := bS w hb
      (try clear hb)
      refine hK.out _ _ ⟨bc BK247 0, bc BK247 1, bc BK247 2, bc BK247 3, bc BK247 4, bc BK247 5, bc BK247 6, bc BK247 7, bc BK247 8, bc BK252 0, bc BK252 1, ((HB.out.cell (World.block_lt_of_cell? w _ hw253_0)).trans hw253_0), ((HB.out.cell (World.block_lt_of_cell? w _ hw253_1)).trans hw253_1), ((HB.out.cell (World.block_lt_of_cell? w _ hw253_2)).trans hw253_2), ((HB.out.cell (World.block_lt_of_cell? w _ hw253_3)).trans hw253_3), ((HB.out.cell (World.block_lt_of_cell? w _ hw253_4)).trans hw253_4)⟩ (fun hHeld => ?_)
      clear hK K
      refine norm_ (a' := ?_) ?_ ?_
      rotate_left
      ·
       show Act.put _ (some 32) _ = _
       simp only [Act.put, List.setIfInBounds_toArray, List.set_cons_zero, List.set_cons_succ, i64_w]
       rfl
      exact norm_ (by simp only [putAll, Act.put, List.setIfInBounds_toArray, List.set_cons_zero, List.set_cons_succ]) (hCont (gb256) _ ⟨hHeld, (bk _ gb246), (bk _ gb247), (bk _ gb248), (bk _ gb252), (bk _ gb256), GW256.out, GE256.out, NB246_256.out, NB256_246.out, NB247_256.out, NB256_247.out, NB248_256.out, NB256_248.out, NB252_256.out, NB256_252.out, (bw w)⟩)
    rintro gb256 w28 ⟨hS_, h0_, h1_, h2_, h3_, h4_, h5_, h6_, h7_, h8_, h9_, h10_, h11_, h12_, h13_, h14_, h15_⟩
    have n0_ : Bk w28 gb246 (.cells #[.int .i64 a0_0, .int .i64 a0_1, .slice A0_2 l0_2.length c0_2] 24 (0, 0)) := ⟨h0_⟩
    have n1_ : Bk w28 gb247 (.cells #[.int .i64 a1_0, .int .i64 a1_1, .int .i64 a1_2, .int .i64 a1_3, .int .i64 a1_4, .int .i64 a1_5, .int .i64 a1_6, .int .i64 a1_7, .slice (some ad253) l1_8.length c1_8] 47 (0, 0)) := ⟨h1_⟩
    have n2_ : Bk w28 gb248 (.cells #[.int .i64 0, .int .i64 0] 40 (0, 0)) := ⟨h2_⟩
    have n3_ : Bk w28 gb252 (.cells #[.int .i64 t249, .int .i64 t250] 103 (0, 0)) := ⟨h3_⟩
    have n4_ : Bk w28 gb256 (.cells #[.int .i64 0, .int .i64 0] 103 (0, 0)) := ⟨h4_⟩
    have n5_ : Ge w gb256 := ⟨h5_⟩
    have n6_ : Ge w gb256 := ⟨h6_⟩
    have n7_ : Nb gb246 gb256 := ⟨h7_⟩
    have n8_ : Nb gb256 gb246 := ⟨h8_⟩
    have n9_ : Nb gb247 gb256 := ⟨h9_⟩
    have n10_ : Nb gb256 gb247 := ⟨h10_⟩
    have n11_ : Nb gb248 gb256 := ⟨h11_⟩
    have n12_ : Nb gb256 gb248 := ⟨h12_⟩
    have n13_ : Nb gb252 gb256 := ⟨h13_⟩
    have n14_ : Nb gb256 gb252 := ⟨h14_⟩
    have n15_ : Bw w w28 := ⟨h15_⟩
    clear BK246 BK247 BK248 BK252 HB h0_ h1_ h2_ h3_ h4_ h5_ h6_ h7_ h8_ h9_ h10_ h11_ h12_ h13_ h14_ h15_
    have BK246 := n0_
    have BK247 := n1_
    have BK248 := n2_
    have BK252 := n3_
    have BK256 := n4_
    have GW256 := n5_
    have GE256 := n6_
    have NB246_256 := n7_
    have NB256_246 := n8_
    have NB247_256 := n9_
    have NB256_247 := n10_
    have NB248_256 := n11_
    have NB256_248 := n12_
    have NB252_256 := n13_
    have NB256_252 := n14_
    have HB := n15_
    clear n0_ n1_ n2_ n3_ n4_ n5_ n6_ n7_ n8_ n9_ n10_ n11_ n12_ n13_ n14_ n15_
    have hHeld : w28.cell? ⟨gb247, 0, none⟩ = some (.int .i64 a1_0) ∧ w28.cell? ⟨gb247, 1, none⟩ = some (.int .i64 a1_1) ∧ w28.cell? ⟨gb247, 2, none⟩ = some (.int .i64 a1_2) ∧ w28.cell? ⟨gb247, 3, none⟩ = some (.int .i64 a1_3) ∧ w28.cell? ⟨gb247, 4, none⟩ = some (.int .i64 a1_4) ∧ w28.cell? ⟨gb247, 5, none⟩ = some (.int .i64 a1_5) ∧ w28.cell? ⟨gb247, 6, none⟩ = some (.int .i64 a1_6) ∧ w28.cell? ⟨gb247, 7, none⟩ = some (.int .i64 a1_7) ∧ w28.cell? ⟨gb247, 8, none⟩ = some (.slice (some ad253) l1_8.length c1_8) ∧ w28.cell? ⟨gb252, 0, none⟩ = some (.int .i64 t249) ∧ w28.cell? ⟨gb252, 1, none⟩ = some (.int .i64 t250) ∧ w28.cell? (ad253.add ((a2).toNat * 5)) = some (.int .i64 ((rd_T71 l1_8 a2).f0)) ∧ w28.cell? ⟨(ad253.add ((a2).toNat * 5)).block, (ad253.add ((a2).toNat * 5)).off + 1, none⟩ = some (.int .i64 ((rd_T71 l1_8 a2).f1)) ∧ w28.cell? ⟨(ad253.add ((a2).toNat * 5)).block, (ad253.add ((a2).toNat * 5)).off + 2, none⟩ = some (.int .i64 ((rd_T71 l1_8 a2).f2)) ∧ w28.cell? ⟨(ad253.add ((a2).toNat * 5)).block, (ad253.add ((a2).toNat * 5)).off + 3, none⟩ = some (.int .i64 ((rd_T71 l1_8 a2).f3)) ∧ w28.cell? ⟨(ad253.add ((a2).toNat * 5)).block, (ad253.add ((a2).toNat * 5)).off + 4, none⟩ = some (.int .i64 ((rd_T71 l1_8 a2).f4)) := hS_
    refine norm_ (a' := ?_) ?_ ?_
    rotate_left
    ·
     simp only [putAll, Act.put, List.setIfInBounds_toArray, List.set_cons_zero, List.set_cons_succ]
     rfl
    refine one_ (i := 9) (N := none) #[true, true, true, true, true, true, true, true, true, true] rfl rfl (one_of HT_.out (by kernel_rfl)) (by decide) (fun K hK => ?_)
    have hs29 : w28.cell? ⟨gb256, 0, none⟩ = some (.int .i64 0) := bc BK256 0
    have hfs29 := blk_frozen BK256.out 0
    have hns29_0 := NB246_256.out
    have hns29_1 := NB247_256.out
    have hns29_2 := NB248_256.out
    have hns29_3 := NB252_256.out
    have hms29_0 := NB256_246.out
    have hms29_1 := NB256_247.out
    have hms29_2 := NB256_248.out
    have hms29_3 := NB256_252.out
    have hs30 : w28.cell? ⟨gb256, 1, none⟩ = some (.int .i64 0) := bc BK256 1
    have hfs30 := blk_frozen BK256.out 1
    have hns30_0 := NB246_256.out
    have hns30_1 := NB247_256.out
    have hns30_2 := NB248_256.out
    have hns30_3 := NB252_256.out
    have hms30_0 := NB256_246.out
    have hms30_1 := NB256_247.out
    have hms30_2 := NB256_248.out
    have hms30_3 := NB256_252.out
    refine skip_ (w1 := ?_) (by rfl) rfl ?_ ?_
    rotate_left
    ·
     go_simp
     rfl
    refine hK.out _ _ ⟨((cell_far (p := ⟨gb256, _, none⟩) NB247_256.out _).trans (((cell_far (p := ⟨gb256, _, none⟩) NB247_256.out _).trans (hHeld.1)))), ((cell_far (p := ⟨gb256, _, none⟩) NB247_256.out _).trans (((cell_far (p := ⟨gb256, _, none⟩) NB247_256.out _).trans (hHeld.2.1)))), ((cell_far (p := ⟨gb256, _, none⟩) NB247_256.out _).trans (((cell_far (p := ⟨gb256, _, none⟩) NB247_256.out _).trans (hHeld.2.2.1)))), ((cell_far (p := ⟨gb256, _, none⟩) NB247_256.out _).trans (((cell_far (p := ⟨gb256, _, none⟩) NB247_256.out _).trans (hHeld.2.2.2.1)))), ((cell_far (p := ⟨gb256, _, none⟩) NB247_256.out _).trans (((cell_far (p := ⟨gb256, _, none⟩) NB247_256.out _).trans (hHeld.2.2.2.2.1)))), ((cell_far (p := ⟨gb256, _, none⟩) NB247_256.out _).trans (((cell_far (p := ⟨gb256, _, none⟩) NB247_256.out _).trans (hHeld.2.2.2.2.2.1)))), ((cell_far (p := ⟨gb256, _, none⟩) NB247_256.out _).trans (((cell_far (p := ⟨gb256, _, none⟩) NB247_256.out _).trans (hHeld.2.2.2.2.2.2.1)))), ((cell_far (p := ⟨gb256, _, none⟩) NB247_256.out _).trans (((cell_far (p := ⟨gb256, _, none⟩) NB247_256.out _).trans (hHeld.2.2.2.2.2.2.2.1)))), ((cell_far (p := ⟨gb256, _, none⟩) NB247_256.out _).trans (((cell_far (p := ⟨gb256, _, none⟩) NB247_256.out _).trans (hHeld.2.2.2.2.2.2.2.2.1)))), ((cell_far (p := ⟨gb256, _, none⟩) NB252_256.out _).trans (((cell_far (p := ⟨gb256, _, none⟩) NB252_256.out _).trans (hHeld.2.2.2.2.2.2.2.2.2.1)))), ((cell_far (p := ⟨gb256, _, none⟩) NB252_256.out _).trans (((cell_far (p := ⟨gb256, _, none⟩) NB252_256.out _).trans (hHeld.2.2.2.2.2.2.2.2.2.2.1)))), ((cell_far (p := ⟨gb256, _, none⟩) (by first | exact Nat.ne_of_lt (Nat.lt_of_lt_of_le (by have := World.block_lt_of_cell? _ _ hw253_0; first | rwa [add_block] at this | exact this) GW256.out) | (rw [add_block]; exact Nat.ne_of_lt (Nat.lt_of_lt_of_le (by have := World.block_lt_of_cell? _ _ hw253_0; first | rwa [add_block] at this | exact this) GW256.out)) | (show (Addr.add _ _).block ≠ _; rw [add_block]; exact Nat.ne_of_lt (Nat.lt_of_lt_of_le (by have := World.block_lt_of_cell? _ _ hw253_0; first | rwa [add_block] at this | exact this) GW256.out)) | (dsimp only; exact Nat.ne_of_lt (Nat.lt_of_lt_of_le (by have := World.block_lt_of_cell? _ _ hw253_0; first | rwa [add_block] at this | exact this) GW256.out))) _).trans (((cell_far (p := ⟨gb256, _, none⟩) (by first | exact Nat.ne_of_lt (Nat.lt_of_lt_of_le (by have := World.block_lt_of_cell? _ _ hw253_0; first | rwa [add_block] at this | exact this) GW256.out) | (rw [add_block]; exact Nat.ne_of_lt (Nat.lt_of_lt_of_le (by have := World.block_lt_of_cell? _ _ hw253_0; first | rwa [add_block] at this | exact this) GW256.out)) | (show (Addr.add _ _).block ≠ _; rw [add_block]; exact Nat.ne_of_lt (Nat.lt_of_lt_of_le (by have := World.block_lt_of_cell? _ _ hw253_0; first | rwa [add_block] at this | exact this) GW256.out)) | (dsimp only; exact Nat.ne_of_lt (Nat.lt_of_lt_of_le (by have := World.block_lt_of_cell? _ _ hw253_0; first | rwa [add_block] at this | exact this) GW256.out))) _).trans (hHeld.2.2.2.2.2.2.2.2.2.2.2.1)))), ((cell_far (p := ⟨gb256, _, none⟩) (by first | exact Nat.ne_of_lt (Nat.lt_of_lt_of_le (by have := World.block_lt_of_cell? _ _ hw253_1; first | rwa [add_block] at this | exact this) GW256.out) | (rw [add_block]; exact Nat.ne_of_lt (Nat.lt_of_lt_of_le (by have := World.block_lt_of_cell? _ _ hw253_1; first | rwa [add_block] at this | exact this) GW256.out)) | (show (Addr.add _ _).block ≠ _; rw [add_block]; exact Nat.ne_of_lt (Nat.lt_of_lt_of_le (by have := World.block_lt_of_cell? _ _ hw253_1; first | rwa [add_block] at this | exact this) GW256.out)) | (dsimp only; exact Nat.ne_of_lt (Nat.lt_of_lt_of_le (by have := World.block_lt_of_cell? _ _ hw253_1; first | rwa [add_block] at this | exact this) GW256.out))) _).trans (((cell_far (p := ⟨gb256, _, none⟩) (by first | exact Nat.ne_of_lt (Nat.lt_of_lt_of_le (by have := World.block_lt_of_cell? _ _ hw253_1; first | rwa [add_block] at this | exact this) GW256.out) | (rw [add_block]; exact Nat.ne_of_lt (Nat.lt_of_lt_of_le (by have := World.block_lt_of_cell? _ _ hw253_1; first | rwa [add_block] at this | exact this) GW256.out)) | (show (Addr.add _ _).block ≠ _; rw [add_block]; exact Nat.ne_of_lt (Nat.lt_of_lt_of_le (by have := World.block_lt_of_cell? _ _ hw253_1; first | rwa [add_block] at this | exact this) GW256.out)) | (dsimp only; exact Nat.ne_of_lt (Nat.lt_of_lt_of_le (by have := World.block_lt_of_cell? _ _ hw253_1; first | rwa [add_block] at this | exact this) GW256.out))) _).trans (hHeld.2.2.2.2.2.2.2.2.2.2.2.2.1)))), ((cell_far (p := ⟨gb256, _, none⟩) (by first | exact Nat.ne_of_lt (Nat.lt_of_lt_of_le (by have := World.block_lt_of_cell? _ _ hw253_2; first | rwa [add_block] at this | exact this) GW256.out) | (rw [add_block]; exact Nat.ne_of_lt (Nat.lt_of_lt_of_le (by have := World.block_lt_of_cell? _ _ hw253_2; first | rwa [add_block] at this | exact this) GW256.out)) | (show (Addr.add _ _).block ≠ _; rw [add_block]; exact Nat.ne_of_lt (Nat.lt_of_lt_of_le (by have := World.block_lt_of_cell? _ _ hw253_2; first | rwa [add_block] at this | exact this) GW256.out)) | (dsimp only; exact Nat.ne_of_lt (Nat.lt_of_lt_of_le (by have := World.block_lt_of_cell? _ _ hw253_2; first | rwa [add_block] at this | exact this) GW256.out))) _).trans (((cell_far (p := ⟨gb256, _, none⟩) (by first | exact Nat.ne_of_lt (Nat.lt_of_lt_of_le (by have := World.block_lt_of_cell? _ _ hw253_2; first | rwa [add_block] at this | exact this) GW256.out) | (rw [add_block]; exact Nat.ne_of_lt (Nat.lt_of_lt_of_le (by have := World.block_lt_of_cell? _ _ hw253_2; first | rwa [add_block] at this | exact this) GW256.out)) | (show (Addr.add _ _).block ≠ _; rw [add_block]; exact Nat.ne_of_lt (Nat.lt_of_lt_of_le (by have := World.block_lt_of_cell? _ _ hw253_2; first | rwa [add_block] at this | exact this) GW256.out)) | (dsimp only; exact Nat.ne_of_lt (Nat.lt_of_lt_of_le (by have := World.block_lt_of_cell? _ _ hw253_2; first | rwa [add_block] at this | exact this) GW256.out))) _).trans (hHeld.2.2.2.2.2.2.2.2.2.2.2.2.2.1)))), ((cell_far (p := ⟨gb256, _, none⟩) (by first | exact Nat.ne_of_lt (Nat.lt_of_lt_of_le (by have := World.block_lt_of_cell? _ _ hw253_3; first | rwa [add_block] at this | exact this) GW256.out) | (rw [add_block]; exact Nat.ne_of_lt (Nat.lt_of_lt_of_le (by have := World.block_lt_of_cell? _ _ hw253_3; first | rwa [add_block] at this | exact this) GW256.out)) | (show (Addr.add _ _).block ≠ _; rw [add_block]; exact Nat.ne_of_lt (Nat.lt_of_lt_of_le (by have := World.block_lt_of_cell? _ _ hw253_3; first | rwa [add_block] at this | exact this) GW256.out)) | (dsimp only; exact Nat.ne_of_lt (Nat.lt_of_lt_of_le (by have := World.block_lt_of_cell? _ _ hw253_3; first | rwa [add_block] at this | exact this) GW256.out))) _).trans (((cell_far (p := ⟨gb256, _, none⟩) (by first | exact Nat.ne_of_lt (Nat.lt_of_lt_of_le (by have := World.block_lt_of_cell? _ _ hw253_3; first | rwa [add_block] at this | exact this) GW256.out) | (rw [add_block]; exact Nat.ne_of_lt (Nat.lt_of_lt_of_le (by have := World.block_lt_of_cell? _ _ hw253_3; first | rwa [add_block] at this | exact this) GW256.out)) | (show (Addr.add _ _).block ≠ _; rw [add_block]; exact Nat.ne_of_lt (Nat.lt_of_lt_of_le (by have := World.block_lt_of_cell? _ _ hw253_3; first | rwa [add_block] at this | exact this) GW256.out)) | (dsimp only; exact Nat.ne_of_lt (Nat.lt_of_lt_of_le (by have := World.block_lt_of_cell? _ _ hw253_3; first | rwa [add_block] at this | exact this) GW256.out))) _).trans (hHeld.2.2.2.2.2.2.2.2.2.2.2.2.2.2.1)))), ((cell_far (p := ⟨gb256, _, none⟩) (by first | exact Nat.ne_of_lt (Nat.lt_of_lt_of_le (by have := World.block_lt_of_cell? _ _ hw253_4; first | rwa [add_block] at this | exact this) GW256.out) | (rw [add_block]; exact Nat.ne_of_lt (Nat.lt_of_lt_of_le (by have := World.block_lt_of_cell? _ _ hw253_4; first | rwa [add_block] at this | exact this) GW256.out)) | (show (Addr.add _ _).block ≠ _; rw [add_block]; exact Nat.ne_of_lt (Nat.lt_of_lt_of_le (by have := World.block_lt_of_cell? _ _ hw253_4; first | rwa [add_block] at this | exact this) GW256.out)) | (dsimp only; exact Nat.ne_of_lt (Nat.lt_of_lt_of_le (by have := World.block_lt_of_cell? _ _ hw253_4; first | rwa [add_block] at this | exact this) GW256.out))) _).trans (((cell_far (p := ⟨gb256, _, none⟩) (by first | exact Nat.ne_of_lt (Nat.lt_of_lt_of_le (by have := World.block_lt_of_cell? _ _ hw253_4; first | rwa [add_block] at this | exact this) GW256.out) | (rw [add_block]; exact Nat.ne_of_lt (Nat.lt_of_lt_of_le (by have := World.block_lt_of_cell? _ _ hw253_4; first | rwa [add_block] at this | exact this) GW256.out)) | (show (Addr.add _ _).block ≠ _; rw [add_block]; exact Nat.ne_of_lt (Nat.lt_of_lt_of_le (by have := World.block_lt_of_cell? _ _ hw253_4; first | rwa [add_block] at this | exact this) GW256.out)) | (dsimp only; exact Nat.ne_of_lt (Nat.lt_of_lt_of_le (by have := World.block_lt_of_cell? _ _ hw253_4; first | rwa [add_block] at this | exact this) GW256.out))) _).trans (hHeld.2.2.2.2.2.2.2.2.2.2.2.2.2.2.2))))⟩ (fun hHeld => ?_)
    clear hK K
    refine done_ (done_of HT_.out (by kernel_rfl)) ?_
    have hnb31 := NB256_246.out
    have hnc31 := NB246_256.out
    have hnb32 := NB256_247.out
    have hnc32 := NB247_256.out
    have hnb33 := NB256_248.out
    have hnc33 := NB248_256.out
    have hnb34 := NB256_252.out
    have hnc34 := NB252_256.out
    obtain ⟨hcz35_0, hcz35_1, hfz35_0, hfz35_1⟩ := cz2 BK256
    obtain ⟨hcz36_0, hcz36_1, hfz36_0, hfz36_1⟩ := cz2 BK248
    try go_wp2
    all_goals (refine bodyPost_ret (results_ct rfl _ _ gb248 40 #[.int .i64 t254, .int .i64 t255] (0, 0) _ rfl (bko gb248 (by rfl)) Tryd.underlying40 rfl (by kernel_rfl)) rfl ?_; exact ⟨by first | rfl | (simp [errW_none, errW_some] <;> rfl) | (simp [*, errW_none, errW_some] <;> rfl), bw w⟩)
   ·
    rw [if_neg c8] at H
    exact absurd H (by simp)
  ·
   rw [if_neg c7] at H
   exact absurd H (by simp)
 ·
  rw [if_neg c6] at H
  have c6b0 : (t251 == 0) = false := beq_eq_false_iff_ne.mpr c6
  have c6b1 : (t251 != 0) = true := bne_iff_ne.mpr c6
  simp only [Option.some.injEq, Prod.mk.injEq] at H
  obtain ⟨rfl, rfl, rfl⟩ := H
  go_enter Tryd.func27, Tryd.ntmps27
  go_wp2_with (first | ((with_reducible refine gate_dst (N := 4) rfl ?_); refine bxE 4 24 #[.int .i64 a0_0, .int .i64 a0_1, .slice A0_2 l0_2.length c0_2] (by rfl) (by rfl) (by first | (go_simp; done) | (go_simp; rfl)) ?_; intro gb246 hg w37 hbox hb; have BK246 := Bk.mk (hbox); have GE246 := eB w hg; replace HB := bS w hb; clear hb hbox hg) | ((with_reducible refine gate_dst (N := 5) rfl ?_); refine bxE 5 47 #[.int .i64 a1_0, .int .i64 a1_1, .int .i64 a1_2, .int .i64 a1_3, .int .i64 a1_4, .int .i64 a1_5, .int .i64 a1_6, .int .i64 a1_7, .slice A1_8 l1_8.length c1_8] (by rfl) (by rfl) (by first | (go_simp; done) | (go_simp; rfl)) ?_; intro gb247 hg w38 hbox hb; have BK247 := Bk.mk (hbox); have GE247 := eB w hg; have NB246_247 := nB gb246 hg; replace BK246 := kB gb246 hb; replace HB := bS w hb; clear hb hbox hg) | ((with_reducible refine gate_dst (N := 8) rfl ?_); refine bxE 8 40 #[.int .i64 0, .int .i64 0] (by rfl) (by rfl) (by first | (go_simp; done) | (go_simp; rfl)) ?_; intro gb248 hg w39 hbox hb; have BK248 := Bk.mk (hbox); have GE248 := eB w hg; have NB246_248 := nB gb246 hg; have NB247_248 := nB gb247 hg; replace BK246 := kB gb246 hb; replace BK247 := kB gb247 hb; replace HB := bS w hb; clear hb hbox hg; obtain ⟨hnb40, hnc40⟩ := nn NB246_247; obtain ⟨hnb41, hnc41⟩ := nn NB246_248; obtain ⟨hcz42_0, hcz42_1, hcz42_2, hfz42_0, hfz42_1, hfz42_2⟩ := cz3 BK246; obtain ⟨hnb43, hnc43⟩ := nn NB247_248; obtain ⟨hcz44_0, hcz44_1, hcz44_2, hcz44_3, hcz44_4, hcz44_5, hcz44_6, hcz44_7, hcz44_8, hfz44_0, hfz44_1, hfz44_2, hfz44_3, hfz44_4, hfz44_5, hfz44_6, hfz44_7, hfz44_8⟩ := cz9 BK247) | ((with_reducible refine gate_callee (f := 81) rfl ?_); refine goesLM (some 18) rfl rfl Tryd.func81 (by kernel_rfl) rfl #[.agg #[.int .i64 a0_0, .int .i64 a0_1, .slice A0_2 l0_2.length c0_2], .agg #[.int .i64 a1_0, .int .i64 a1_1, .int .i64 a1_2, .int .i64 a1_3, .int .i64 a1_4, .int .i64 a1_5, .int .i64 a1_6, .int .i64 a1_7, .slice A1_8 l1_8.length c1_8], .int .i64 a2, .int .i64 a3] rfl (by rfl) ?_; (with_reducible refine (course_look.calls k a0_0 a0_1 _ _ l0_2 a1_0 a1_1 a1_2 a1_3 a1_4 a1_5 a1_6 a1_7 _ _ l1_8 a2 a3 t249 t250 t251 _ ?side1 ?side2 ?side3 ?side4 A5.out).mono ?_); (case side1 => exact cP (Kd.C_below HR0_2.out HB.out)); (case side2 => exact HC0_2.out); (case side3 => exact cP (Kd.C_below HR1_8.out HB.out)); (case side4 => exact HC1_8.out); rintro e w45 ⟨rfl, hb⟩; refine ⟨_, rfl, ?_⟩; replace BK246 := kB gb246 hb; replace BK247 := kB gb247 hb; replace BK248 := kB gb248 hb; replace HB := bS w hb; (try clear hb)) | ((with_reducible refine gate_dst (N := 10) rfl ?_); refine bxE 10 103 #[.int .i64 0, .int .i64 0] (by rfl) (by rfl) (by first | (go_simp; done) | (go_simp; rfl)) ?_; intro gb252 hg w46 hbox hb; have BK252 := Bk.mk (hbox); have GE252 := eB w hg; have NB246_252 := nB gb246 hg; have NB247_252 := nB gb247 hg; have NB248_252 := nB gb248 hg; replace BK246 := kB gb246 hb; replace BK247 := kB gb247 hb; replace BK248 := kB gb248 hb; replace HB := bS w hb; clear hb hbox hg; obtain ⟨hnc47, hnb47⟩ := nn NB246_252; obtain ⟨hnc48, hnb48⟩ := nn NB247_252; obtain ⟨hnc49, hnb49⟩ := nn NB248_252; obtain ⟨hcz50_0, hcz50_1, hfz50_0, hfz50_1⟩ := cz2 BK252; obtain ⟨hcz51_0, hcz51_1, hfz51_0, hfz51_1⟩ := cz2 BK248))
  all_goals (refine bodyPost_ret (results_ct rfl _ _ gb248 40 #[.int .i64 0, .int .i64 0] (0, 0) _ rfl (bko gb248 (by rfl)) Tryd.underlying40 rfl (by kernel_rfl)) rfl ?_; exact ⟨by first | rfl | (simp [errW_none, errW_some] <;> rfl) | (simp [*, errW_none, errW_some] <;> rfl), bw w⟩)
def course_snow.f (a0_0 : Int) (a0_1 : Int) (a0_2 : Int) (a0_3 : Int) (a0_4 : Int) (a0_5 : Int) (a0_6 : Int) (a0_7 : Int) (l0_8 : List (S71)) (a1_0 : Int) (a1_1 : Int) (a1_2 : Int) (a1_3 : Int) (a1_4 : Int) (a2_0 : Int) (a2_1 : Int) : Option (Int × Int) := (course_core.f a0_0 a0_1 a0_2 a0_3 a0_4 a0_5 a0_6 a0_7 l0_8 a1_0 a1_1 a1_2 a1_3 a1_4 a2_0 a2_1).bind fun bt260 => (some (wrap64 ((wrap64 (20 * bt260.1)) + (wrap64 (a1_3 * a0_5))), wrap64 (bt260.2 + (wrap64 (a1_3 * a0_5)))))
set_option maxHeartbeats 8000000 in
set_option maxRecDepth 100000 in
theorem course_snow.calls (a0_0 : Int) (a0_1 : Int) (a0_2 : Int) (a0_3 : Int) (a0_4 : Int) (a0_5 : Int) (a0_6 : Int) (a0_7 : Int) (A0_8 : Option Addr) (c0_8 : Nat) (l0_8 : List (S71)) (a1_0 : Int) (a1_1 : Int) (a1_2 : Int) (a1_3 : Int) (a1_4 : Int) (a2_0 : Int) (a2_1 : Int) (r1 : Int) (r2 : Int) (w : World) (hr0_8 : Kd.C k71 w A0_8 l0_8.length l0_8) (hc0_8 : l0_8.length ≤ c0_8) (h : course_snow.f a0_0 a0_1 a0_2 a0_3 a0_4 a0_5 a0_6 a0_7 l0_8 a1_0 a1_1 a1_2 a1_3 a1_4 a2_0 a2_1 = some (r1, r2)) :
  Calls Tryd.prog 86 #[.agg #[.int .i64 a0_0, .int .i64 a0_1, .int .i64 a0_2, .int .i64 a0_3, .int .i64 a0_4, .int .i64 a0_5, .int .i64 a0_6, .int .i64 a0_7, .slice A0_8 l0_8.length c0_8], .agg #[.int .i64 a1_0, .int .i64 a1_1, .int .i64 a1_2, .int .i64 a1_3, .int .i64 a1_4], .agg #[.int .i64 a2_0, .int .i64 a2_1]] w fun e w' => e = .returned (.tuple #[.int .i64 r1, .int .i64 r2]) ∧ Below w.heap.size w w' := by
 have hu47 := Tryd.underlying47
 have hu71 := Tryd.underlying71
 have hu103 := Tryd.underlying103
 have HR0_8 := Aside0.mk (hr0_8)
 have HC0_8 := Aside0.mk (hc0_8)
 clear hr0_8 hc0_8
 have HB := Bw.mk (Below.refl w.heap.size w)
 have H : ((course_core.f a0_0 a0_1 a0_2 a0_3 a0_4 a0_5 a0_6 a0_7 l0_8 a1_0 a1_1 a1_2 a1_3 a1_4 a2_0 a2_1).bind fun bt260 => (some (wrap64 ((wrap64 (20 * bt260.1)) + (wrap64 (a1_3 * a0_5))), wrap64 (bt260.2 + (wrap64 (a1_3 * a0_5)))))) = some (r1, r2) := h
 clear h
 replace H := Option.bind_eq_some_iff.mp H
 obtain ⟨⟨t260, t261⟩, A40, H⟩ := H
 have A4 := Aside0.mk (A40)
 clear A40
 simp only [Option.some.injEq, Prod.mk.injEq] at H
 obtain ⟨rfl, rfl⟩ := H
 go_enter Tryd.func86, Tryd.ntmps86
 go_wp2_with (first | ((with_reducible refine gate_dst (N := 3) rfl ?_); refine bxE 3 47 #[.int .i64 a0_0, .int .i64 a0_1, .int .i64 a0_2, .int .i64 a0_3, .int .i64 a0_4, .int .i64 a0_5, .int .i64 a0_6, .int .i64 a0_7, .slice A0_8 l0_8.length c0_8] (by rfl) (by rfl) (by first | (go_simp; done) | (go_simp; rfl)) ?_; intro gb257 hg w5 hbox hb; have BK257 := Bk.mk (hbox); have GE257 := eB w hg; replace HB := bS w hb; clear hb hbox hg) | ((with_reducible refine gate_dst (N := 4) rfl ?_); refine bxE 4 71 #[.int .i64 a1_0, .int .i64 a1_1, .int .i64 a1_2, .int .i64 a1_3, .int .i64 a1_4] (by rfl) (by rfl) (by first | (go_simp; done) | (go_simp; rfl)) ?_; intro gb258 hg w6 hbox hb; have BK258 := Bk.mk (hbox); have GE258 := eB w hg; replace BK257 := kB gb257 hb; replace HB := bS w hb; clear hb hbox hg) | ((with_reducible refine gate_dst (N := 5) rfl ?_); refine bxE 5 103 #[.int .i64 a2_0, .int .i64 a2_1] (by rfl) (by rfl) (by first | (go_simp; done) | (go_simp; rfl)) ?_; intro gb259 hg w7 hbox hb; have BK259 := Bk.mk (hbox); have GE259 := eB w hg; replace BK257 := kB gb257 hb; replace BK258 := kB gb258 hb; replace HB := bS w hb; clear hb hbox hg; obtain ⟨hcz10_0, hcz10_1, hcz10_2, hcz10_3, hcz10_4, hcz10_5, hcz10_6, hcz10_7, hcz10_8, hfz10_0, hfz10_1, hfz10_2, hfz10_3, hfz10_4, hfz10_5, hfz10_6, hfz10_7, hfz10_8⟩ := cz9 BK257; obtain ⟨hcz12_0, hcz12_1, hcz12_2, hcz12_3, hcz12_4, hfz12_0, hfz12_1, hfz12_2, hfz12_3, hfz12_4⟩ := cz5 BK258; obtain ⟨hcz13_0, hcz13_1, hfz13_0, hfz13_1⟩ := cz2 BK259) | (go_at_call 82; (with_reducible refine (course_core.calls a0_0 a0_1 a0_2 a0_3 a0_4 a0_5 a0_6 a0_7 _ _ l0_8 a1_0 a1_1 a1_2 a1_3 a1_4 a2_0 a2_1 t260 t261 _ ?side1 ?side2 A4.out).mono ?_); (case side1 => exact cP (Kd.C_below HR0_8.out HB.out)); (case side2 => exact HC0_8.out); rintro e w14 ⟨rfl, hb⟩; replace BK257 := kB gb257 hb; replace BK258 := kB gb258 hb; replace BK259 := kB gb259 hb; replace HB := bS w hb; (try clear hb)) | ((with_reducible refine gate_dst (N := 8) rfl ?_); refine bxE 8 103 #[.int .i64 0, .int .i64 0] (by rfl) (by rfl) (by first | (go_simp; done) | (go_simp; rfl)) ?_; intro gb262 hg w15 hbox hb; have BK262 := Bk.mk (hbox); have GE262 := eB w hg; replace BK257 := kB gb257 hb; replace BK258 := kB gb258 hb; replace BK259 := kB gb259 hb; replace HB := bS w hb; clear hb hbox hg; obtain ⟨hcz19_0, hcz19_1, hfz19_0, hfz19_1⟩ := cz2 BK262; obtain ⟨hcz20_0, hcz20_1, hcz20_2, hcz20_3, hcz20_4, hfz20_0, hfz20_1, hfz20_2, hfz20_3, hfz20_4⟩ := cz5 BK258; obtain ⟨hcz21_0, hcz21_1, hcz21_2, hcz21_3, hcz21_4, hcz21_5, hcz21_6, hcz21_7, hcz21_8, hfz21_0, hfz21_1, hfz21_2, hfz21_3, hfz21_4, hfz21_5, hfz21_6, hfz21_7, hfz21_8⟩ := cz9 BK257))
 repeat (go_quiet (first | ((with_reducible refine gate_dst (N := 3) rfl ?_); refine bxE 3 47 #[.int .i64 a0_0, .int .i64 a0_1, .int .i64 a0_2, .int .i64 a0_3, .int .i64 a0_4, .int .i64 a0_5, .int .i64 a0_6, .int .i64 a0_7, .slice A0_8 l0_8.length c0_8] (by rfl) (by rfl) (by first | (go_simp; done) | (go_simp; rfl)) ?_; intro gb257 hg w5 hbox hb; have BK257 := Bk.mk (hbox); have GE257 := eB w hg; replace HB := bS w hb; clear hb hbox hg) | ((with_reducible refine gate_dst (N := 4) rfl ?_); refine bxE 4 71 #[.int .i64 a1_0, .int .i64 a1_1, .int .i64 a1_2, .int .i64 a1_3, .int .i64 a1_4] (by rfl) (by rfl) (by first | (go_simp; done) | (go_simp; rfl)) ?_; intro gb258 hg w6 hbox hb; have BK258 := Bk.mk (hbox); have GE258 := eB w hg; replace BK257 := kB gb257 hb; replace HB := bS w hb; clear hb hbox hg) | ((with_reducible refine gate_dst (N := 5) rfl ?_); refine bxE 5 103 #[.int .i64 a2_0, .int .i64 a2_1] (by rfl) (by rfl) (by first | (go_simp; done) | (go_simp; rfl)) ?_; intro gb259 hg w7 hbox hb; have BK259 := Bk.mk (hbox); have GE259 := eB w hg; replace BK257 := kB gb257 hb; replace BK258 := kB gb258 hb; replace HB := bS w hb; clear hb hbox hg; obtain ⟨hcz10_0, hcz10_1, hcz10_2, hcz10_3, hcz10_4, hcz10_5, hcz10_6, hcz10_7, hcz10_8, hfz10_0, hfz10_1, hfz10_2, hfz10_3, hfz10_4, hfz10_5, hfz10_6, hfz10_7, hfz10_8⟩ := cz9 BK257; obtain ⟨hcz12_0, hcz12_1, hcz12_2, hcz12_3, hcz12_4, hfz12_0, hfz12_1, hfz12_2, hfz12_3, hfz12_4⟩ := cz5 BK258; obtain ⟨hcz13_0, hcz13_1, hfz13_0, hfz13_1⟩ := cz2 BK259) | (go_at_call 82; (with_reducible refine (course_core.calls a0_0 a0_1 a0_2 a0_3 a0_4 a0_5 a0_6 a0_7 _ _ l0_8 a1_0 a1_1 a1_2 a1_3 a1_4 a2_0 a2_1 t260 t261 _ ?side1 ?side2 A4.out).mono ?_); (case side1 => exact cP (Kd.C_below HR0_8.out HB.out)); (case side2 => exact HC0_8.out); rintro e w14 ⟨rfl, hb⟩; replace BK257 := kB gb257 hb; replace BK258 := kB gb258 hb; replace BK259 := kB gb259 hb; replace HB := bS w hb; (try clear hb)) | ((with_reducible refine gate_dst (N := 8) rfl ?_); refine bxE 8 103 #[.int .i64 0, .int .i64 0] (by rfl) (by rfl) (by first | (go_simp; done) | (go_simp; rfl)) ?_; intro gb262 hg w15 hbox hb; have BK262 := Bk.mk (hbox); have GE262 := eB w hg; replace BK257 := kB gb257 hb; replace BK258 := kB gb258 hb; replace BK259 := kB gb259 hb; replace HB := bS w hb; clear hb hbox hg; obtain ⟨hcz19_0, hcz19_1, hfz19_0, hfz19_1⟩ := cz2 BK262; obtain ⟨hcz20_0, hcz20_1, hcz20_2, hcz20_3, hcz20_4, hfz20_0, hfz20_1, hfz20_2, hfz20_3, hfz20_4⟩ := cz5 BK258; obtain ⟨hcz21_0, hcz21_1, hcz21_2, hcz21_3, hcz21_4, hcz21_5, hcz21_6, hcz21_7, hcz21_8, hfz21_0, hfz21_1, hfz21_2, hfz21_3, hfz21_4, hfz21_5, hfz21_6, hfz21_7, hfz21_8⟩ := cz9 BK257)); try go_wp2_with (first | ((with_reducible refine gate_dst (N := 3) rfl ?_); refine bxE 3 47 #[.int .i64 a0_0, .int .i64 a0_1, .int .i64 a0_2, .int .i64 a0_3, .int .i64 a0_4, .int .i64 a0_5, .int .i64 a0_6, .int .i64 a0_7, .slice A0_8 l0_8.length c0_8] (by rfl) (by rfl) (by first | (go_simp; done) | (go_simp; rfl)) ?_; intro gb257 hg w5 hbox hb; have BK257 := Bk.mk (hbox); have GE257 := eB w hg; replace HB := bS w hb; clear hb hbox hg) | ((with_reducible refine gate_dst (N := 4) rfl ?_); refine bxE 4 71 #[.int .i64 a1_0, .int .i64 a1_1, .int .i64 a1_2, .int .i64 a1_3, .int .i64 a1_4] (by rfl) (by rfl) (by first | (go_simp; done) | (go_simp; rfl)) ?_; intro gb258 hg w6 hbox hb; have BK258 := Bk.mk (hbox); have GE258 := eB w hg; replace BK257 := kB gb257 hb; replace HB := bS w hb; clear hb hbox hg) | ((with_reducible refine gate_dst (N := 5) rfl ?_); refine bxE 5 103 #[.int .i64 a2_0, .int .i64 a2_1] (by rfl) (by rfl) (by first | (go_simp; done) | (go_simp; rfl)) ?_; intro gb259 hg w7 hbox hb; have BK259 := Bk.mk (hbox); have GE259 := eB w hg; replace BK257 := kB gb257 hb; replace BK258 := kB gb258 hb; replace HB := bS w hb; clear hb hbox hg; obtain ⟨hcz10_0, hcz10_1, hcz10_2, hcz10_3, hcz10_4, hcz10_5, hcz10_6, hcz10_7, hcz10_8, hfz10_0, hfz10_1, hfz10_2, hfz10_3, hfz10_4, hfz10_5, hfz10_6, hfz10_7, hfz10_8⟩ := cz9 BK257; obtain ⟨hcz12_0, hcz12_1, hcz12_2, hcz12_3, hcz12_4, hfz12_0, hfz12_1, hfz12_2, hfz12_3, hfz12_4⟩ := cz5 BK258; obtain ⟨hcz13_0, hcz13_1, hfz13_0, hfz13_1⟩ := cz2 BK259) | (go_at_call 82; (with_reducible refine (course_core.calls a0_0 a0_1 a0_2 a0_3 a0_4 a0_5 a0_6 a0_7 _ _ l0_8 a1_0 a1_1 a1_2 a1_3 a1_4 a2_0 a2_1 t260 t261 _ ?side1 ?side2 A4.out).mono ?_); (case side1 => exact cP (Kd.C_below HR0_8.out HB.out)); (case side2 => exact HC0_8.out); rintro e w14 ⟨rfl, hb⟩; replace BK257 := kB gb257 hb; replace BK258 := kB gb258 hb; replace BK259 := kB gb259 hb; replace HB := bS w hb; (try clear hb)) | ((with_reducible refine gate_dst (N := 8) rfl ?_); refine bxE 8 103 #[.int .i64 0, .int .i64 0] (by rfl) (by rfl) (by first | (go_simp; done) | (go_simp; rfl)) ?_; intro gb262 hg w15 hbox hb; have BK262 := Bk.mk (hbox); have GE262 := eB w hg; replace BK257 := kB gb257 hb; replace BK258 := kB gb258 hb; replace BK259 := kB gb259 hb; replace HB := bS w hb; clear hb hbox hg; obtain ⟨hcz19_0, hcz19_1, hfz19_0, hfz19_1⟩ := cz2 BK262; obtain ⟨hcz20_0, hcz20_1, hcz20_2, hcz20_3, hcz20_4, hfz20_0, hfz20_1, hfz20_2, hfz20_3, hfz20_4⟩ := cz5 BK258; obtain ⟨hcz21_0, hcz21_1, hcz21_2, hcz21_3, hcz21_4, hcz21_5, hcz21_6, hcz21_7, hcz21_8, hfz21_0, hfz21_1, hfz21_2, hfz21_3, hfz21_4, hfz21_5, hfz21_6, hfz21_7, hfz21_8⟩ := cz9 BK257)))
 go_ret2
 exact ⟨by first | rfl | (simp [errW_none, errW_some] <;> rfl) | (simp [*, errW_none, errW_some] <;> rfl), bw w⟩
def course_up.f (a0 : Int) (a1 : Int) : Option (Int) := if a1 = 0 then (none) else (some (wrap64 (Int.tdiv (wrap64 ((wrap64 (a0 + a1)) - 1)) a1)))
set_option maxHeartbeats 8000000 in
set_option maxRecDepth 100000 in
theorem course_up.calls (a0 : Int) (a1 : Int) (r : Int) (w : World) (h : course_up.f a0 a1 = some r) :
  Calls Tryd.prog 87 #[.int .i64 a0, .int .i64 a1] w fun e w' => e = .returned (.int .i64 r) ∧ Drawn0 w w' := by
 have H : (if a1 = 0 then (none) else (some (wrap64 (Int.tdiv (wrap64 ((wrap64 (a0 + a1)) - 1)) a1)))) = some r := h
 clear h
 by_cases c3 : a1 = 0
 ·
  rw [if_pos c3] at H
  exact absurd H (by simp)
 ·
  rw [if_neg c3] at H
  have c3b0 : (a1 == 0) = false := beq_eq_false_iff_ne.mpr c3
  have c3b1 : (a1 != 0) = true := bne_iff_ne.mpr c3
  obtain rfl := Option.some.inj H
  go_enter Tryd.func87, Tryd.ntmps87
  go_wp2
  go_ret
  exact ⟨by first | rfl | (simp; done) | (simp [*]; done), by repeat (first | exact Drawn0.refl _ | apply Drawn0.step)⟩
def course_Water.f (k : Nat) (a0_0 : Int) (a0_1 : Int) (l0_2 : List (S26)) (a1_0 : Int) (a1_1 : Int) (a1_2 : Int) (a1_3 : Int) (a1_4 : Int) (a1_5 : Int) (a1_6 : Int) (a1_7 : Int) (l1_8 : List (S71)) (a2 : Int) (a3 : Int) : Option (Int × Int × Int) := (course_look.f k a0_0 a0_1 l0_2 a1_0 a1_1 a1_2 a1_3 a1_4 a1_5 a1_6 a1_7 l1_8 a2 a3).bind fun bt266 => (if bt266.2.2 = 0 then (if 0 ≤ a2 then (if a2 < (l1_8.length : Int) then ((course_snow.f a1_0 a1_1 a1_2 a1_3 a1_4 a1_5 a1_6 a1_7 l1_8 ((rd_T71 l1_8 a2).f0) ((rd_T71 l1_8 a2).f1) ((rd_T71 l1_8 a2).f2) ((rd_T71 l1_8 a2).f3) ((rd_T71 l1_8 a2).f4) bt266.1 bt266.2.1).bind fun bt271 => (if (wrap64 (20 * a1_5)) = 0 then (none) else ((course_up.f bt271.2 a1_5).bind fun t273 => (some (wrap64 (Int.tdiv bt271.1 (wrap64 (20 * a1_5))), t273, 0))))) else (none)) else (none)) else (some (0, 0, bt266.2.2)))
theorem course_Water.mono : ∀ a0 a1 a2 a3 a4 a5 a6 a7 a8 a9 a10 a11 a12 a13 k, LeO (course_Water.f k a0 a1 a2 a3 a4 a5 a6 a7 a8 a9 a10 a11 a12 a13) (course_Water.f (k + 1) a0 a1 a2 a3 a4 a5 a6 a7 a8 a9 a10 a11 a12 a13) := by
 intro a0 a1 a2 a3 a4 a5 a6 a7 a8 a9 a10 a11 a12 a13 k
 unfold course_Water.f
 repeat' first
   | (with_reducible exact course_look.mono _ _ _ _ _ _ _ _ _ _ _ _ _ _ _)
   | (with_reducible exact LeO.refl _)
   | (with_reducible exact LeO.none _)
   | (with_reducible refine LeO.ite ?_ ?_)
   | (with_reducible refine LeO.bind ?_ (fun _ => ?_))
   | exact course_look.mono _ _ _ _ _ _ _ _ _ _ _ _ _ _ _
   | exact LeO.none _
   | refine LeO.ite ?_ ?_
   | refine LeO.bind ?_ (fun _ => ?_)
def course_Water.T4 : Bool × List (List Nat × List Nat) := (true, [([], []), ([], []), ([1], [1]), ([], []), ([2, 3], [2, 3]), ([4], [4]), ([], []), ([0, 5, 6], [0, 5, 6]), ([7], [7]), ([8], [8]), ([8], [8]), ([9, 7, 0, 1, 2, 3, 4, 5, 6, 7, 8, 9], [9]), ([10, 11, 0, 1, 2, 3, 4, 5, 6, 7, 8, 9, 10, 11], [10])])
def course_Water.B4 : List Nat := [0, 0, 2, 0, 14, 30, 0, 127, 255, 511, 511, 1023, 4095]
theorem course_Water.tab4 : rtab .any (opsOf Tryd.f29 4) = course_Water.T4 := by kernel_rfl
theorem course_Water.bits4 : waitsOk course_Water.T4.2 course_Water.B4 = true := by kernel_rfl
def course_Water.T5 : Bool × List (List Nat × List Nat) := (true, [([], []), ([], []), ([1], [1]), ([2], [2]), ([0, 3], [0, 3]), ([], []), ([], []), ([6], [6]), ([5, 7], [5, 7]), ([4, 8], [4, 8]), ([9, 8, 0, 1, 2, 3, 4, 5, 6, 7, 8, 9], [9]), ([10, 0, 1, 2, 3, 4, 5, 6, 7, 8, 9, 10], [])])
def course_Water.B5 : List Nat := [0, 0, 2, 6, 15, 0, 0, 64, 224, 511, 1023, 2047]
theorem course_Water.tab5 : rtab .any (opsOf Tryd.f29 5) = course_Water.T5 := by kernel_rfl
theorem course_Water.bits5 : waitsOk course_Water.T5.2 course_Water.B5 = true := by kernel_rfl
set_option maxHeartbeats 8000000 in
set_option maxRecDepth 100000 in
theorem course_Water.calls (k : Nat) (a0_0 : Int) (a0_1 : Int) (A0_2 : Option Addr) (c0_2 : Nat) (l0_2 : List (S26)) (a1_0 : Int) (a1_1 : Int) (a1_2 : Int) (a1_3 : Int) (a1_4 : Int) (a1_5 : Int) (a1_6 : Int) (a1_7 : Int) (A1_8 : Option Addr) (c1_8 : Nat) (l1_8 : List (S71)) (a2 : Int) (a3 : Int) (r1 : Int) (r2 : Int) (r3 : Int) (w : World) (hr0_2 : Kd.C k26 w A0_2 l0_2.length l0_2) (hc0_2 : l0_2.length ≤ c0_2) (hr1_8 : Kd.C k71 w A1_8 l1_8.length l1_8) (hc1_8 : l1_8.length ≤ c1_8) (h : course_Water.f k a0_0 a0_1 l0_2 a1_0 a1_1 a1_2 a1_3 a1_4 a1_5 a1_6 a1_7 l1_8 a2 a3 = some (r1, r2, r3)) :
  Calls Tryd.prog 29 #[.agg #[.int .i64 a0_0, .int .i64 a0_1, .slice A0_2 l0_2.length c0_2], .agg #[.int .i64 a1_0, .int .i64 a1_1, .int .i64 a1_2, .int .i64 a1_3, .int .i64 a1_4, .int .i64 a1_5, .int .i64 a1_6, .int .i64 a1_7, .slice A1_8 l1_8.length c1_8], .int .i64 a2, .int .i64 a3] w fun e w' => e = .returned (.tuple #[.agg #[.int .i64 r1, .int .i64 r2], .int .i64 r3]) ∧ Below w.heap.size w w' := by
 have hu24 := Tryd.underlying24
 have hu47 := Tryd.underlying47
 have hu40 := Tryd.underlying40
 have hu103 := Tryd.underlying103
 have hu71 := Tryd.underlying71
 have HR0_2 := Aside0.mk (hr0_2)
 have HC0_2 := Aside0.mk (hc0_2)
 clear hr0_2 hc0_2
 have HR1_8 := Aside0.mk (hr1_8)
 have HC1_8 := Aside0.mk (hc1_8)
 clear hr1_8 hc1_8
 have HB := Bw.mk (Below.refl w.heap.size w)
 have H : ((course_look.f k a0_0 a0_1 l0_2 a1_0 a1_1 a1_2 a1_3 a1_4 a1_5 a1_6 a1_7 l1_8 a2 a3).bind fun bt266 => (if bt266.2.2 = 0 then (if 0 ≤ a2 then (if a2 < (l1_8.length : Int) then ((course_snow.f a1_0 a1_1 a1_2 a1_3 a1_4 a1_5 a1_6 a1_7 l1_8 ((rd_T71 l1_8 a2).f0) ((rd_T71 l1_8 a2).f1) ((rd_T71 l1_8 a2).f2) ((rd_T71 l1_8 a2).f3) ((rd_T71 l1_8 a2).f4) bt266.1 bt266.2.1).bind fun bt271 => (if (wrap64 (20 * a1_5)) = 0 then (none) else ((course_up.f bt271.2 a1_5).bind fun t273 => (some (wrap64 (Int.tdiv bt271.1 (wrap64 (20 * a1_5))), t273, 0))))) else (none)) else (none)) else (some (0, 0, bt266.2.2)))) = some (r1, r2, r3) := h
 clear h
 replace H := Option.bind_eq_some_iff.mp H
 obtain ⟨⟨t266, t267, t268⟩, A50, H⟩ := H
 have A5 := Aside0.mk (A50)
 clear A50
 by_cases c6 : t268 = 0
 ·
  rw [if_pos c6] at H
  have c6b0 : (t268 == 0) = true := beq_iff_eq.mpr c6
  have c6b1 : (t268 != 0) = false := bne_eq_false_iff_eq.mpr c6
  clear c6
  by_cases c7 : 0 ≤ a2
  ·
   rw [if_pos c7] at H
   have c7b0 : decide (0 ≤ a2) = true := decide_eq_true c7
   clear c7
   by_cases c8 : a2 < (l1_8.length : Int)
   ·
    rw [if_pos c8] at H
    have c8b0 : decide (a2 < (l1_8.length : Int)) = true := decide_eq_true c8
    clear c8
    replace H := Option.bind_eq_some_iff.mp H
    obtain ⟨⟨t271, t272⟩, A90, H⟩ := H
    have A9 := Aside0.mk (A90)
    clear A90
    by_cases c10 : (wrap64 (20 * a1_5)) = 0
    ·
     rw [if_pos c10] at H
     exact absurd H (by simp)
    ·
     rw [if_neg c10] at H
     have c10b0 : ((wrap64 (20 * a1_5)) == 0) = false := beq_eq_false_iff_ne.mpr c10
     have c10b1 : ((wrap64 (20 * a1_5)) != 0) = true := bne_iff_ne.mpr c10
     replace H := Option.bind_eq_some_iff.mp H
     obtain ⟨t273, A110, H⟩ := H
     have A11 := Aside0.mk (A110)
     clear A110
     simp only [Option.some.injEq, Prod.mk.injEq] at H
     obtain ⟨rfl, rfl, rfl⟩ := H
     go_enter Tryd.func29, Tryd.ntmps29
     try go_wp2_with (first | ((with_reducible refine gate_dst (N := 4) rfl ?_); refine bxE 4 24 #[.int .i64 a0_0, .int .i64 a0_1, .slice A0_2 l0_2.length c0_2] (by rfl) (by rfl) (by first | (go_simp; done) | (go_simp; rfl)) ?_; intro gb263 hg w12 hbox hb; have BK263 := Bk.mk (hbox); have GE263 := eB w hg; replace HB := bS w hb; clear hb hbox hg) | ((with_reducible refine gate_dst (N := 5) rfl ?_); refine bxE 5 47 #[.int .i64 a1_0, .int .i64 a1_1, .int .i64 a1_2, .int .i64 a1_3, .int .i64 a1_4, .int .i64 a1_5, .int .i64 a1_6, .int .i64 a1_7, .slice A1_8 l1_8.length c1_8] (by rfl) (by rfl) (by first | (go_simp; done) | (go_simp; rfl)) ?_; intro gb264 hg w13 hbox hb; have BK264 := Bk.mk (hbox); have GE264 := eB w hg; have NB263_264 := nB gb263 hg; replace BK263 := kB gb263 hb; replace HB := bS w hb; clear hb hbox hg) | ((with_reducible refine gate_dst (N := 8) rfl ?_); refine bxE 8 40 #[.int .i64 0, .int .i64 0] (by rfl) (by rfl) (by first | (go_simp; done) | (go_simp; rfl)) ?_; intro gb265 hg w14 hbox hb; have BK265 := Bk.mk (hbox); have GE265 := eB w hg; have NB263_265 := nB gb263 hg; have NB264_265 := nB gb264 hg; replace BK263 := kB gb263 hb; replace BK264 := kB gb264 hb; replace HB := bS w hb; clear hb hbox hg; obtain ⟨hnb15, hnc15⟩ := nn NB263_264; obtain ⟨hnb16, hnc16⟩ := nn NB263_265; obtain ⟨hcz17_0, hcz17_1, hcz17_2, hfz17_0, hfz17_1, hfz17_2⟩ := cz3 BK263; obtain ⟨hnb18, hnc18⟩ := nn NB264_265; obtain ⟨hcz19_0, hcz19_1, hcz19_2, hcz19_3, hcz19_4, hcz19_5, hcz19_6, hcz19_7, hcz19_8, hfz19_0, hfz19_1, hfz19_2, hfz19_3, hfz19_4, hfz19_5, hfz19_6, hfz19_7, hfz19_8⟩ := cz9 BK264) | ((with_reducible refine gate_callee (f := 81) rfl ?_); refine goesLM (some 19) rfl rfl Tryd.func81 (by kernel_rfl) rfl #[.agg #[.int .i64 a0_0, .int .i64 a0_1, .slice A0_2 l0_2.length c0_2], .agg #[.int .i64 a1_0, .int .i64 a1_1, .int .i64 a1_2, .int .i64 a1_3, .int .i64 a1_4, .int .i64 a1_5, .int .i64 a1_6, .int .i64 a1_7, .slice A1_8 l1_8.length c1_8], .int .i64 a2, .int .i64 a3] rfl (by rfl) ?_; (with_reducible refine (course_look.calls k a0_0 a0_1 _ _ l0_2 a1_0 a1_1 a1_2 a1_3 a1_4 a1_5 a1_6 a1_7 _ _ l1_8 a2 a3 t266 t267 t268 _ ?side1 ?side2 ?side3 ?side4 A5.out).mono ?_); (case side1 => exact cP (Kd.C_below HR0_2.out HB.out)); (case side2 => exact HC0_2.out); (case side3 => exact cP (Kd.C_below HR1_8.out HB.out)); (case side4 => exact HC1_8.out); rintro e w20 ⟨rfl, hb⟩; refine ⟨_, rfl, ?_⟩; replace BK263 := kB gb263 hb; replace BK264 := kB gb264 hb; replace BK265 := kB gb265 hb; replace HB := bS w hb; (try clear hb)) | ((with_reducible refine gate_dst (N := 10) rfl ?_); refine bxE 10 103 #[.int .i64 0, .int .i64 0] (by rfl) (by rfl) (by first | (go_simp; done) | (go_simp; rfl)) ?_; intro gb269 hg w21 hbox hb; have BK269 := Bk.mk (hbox); have GE269 := eB w hg; have NB263_269 := nB gb263 hg; have NB264_269 := nB gb264 hg; have NB265_269 := nB gb265 hg; replace BK263 := kB gb263 hb; replace BK264 := kB gb264 hb; replace BK265 := kB gb265 hb; replace HB := bS w hb; clear hb hbox hg; obtain ⟨hnc22, hnb22⟩ := nn NB263_269; obtain ⟨hnc23, hnb23⟩ := nn NB264_269; obtain ⟨hnc24, hnb24⟩ := nn NB265_269; obtain ⟨hcz25_0, hcz25_1, hfz25_0, hfz25_1⟩ := cz2 BK269))
     have n0_ : Bk ((w21.setCell ⟨gb269, 0, none⟩ (.int .i64 t266)).setCell ⟨gb269, 1, none⟩ (.int .i64 t267)) gb263 (.cells #[.int .i64 a0_0, .int .i64 a0_1, .slice A0_2 l0_2.length c0_2] 24 (0, 0)) := ⟨bko gb263 (by rfl)⟩
     have n1_ : Bk ((w21.setCell ⟨gb269, 0, none⟩ (.int .i64 t266)).setCell ⟨gb269, 1, none⟩ (.int .i64 t267)) gb264 (.cells #[.int .i64 a1_0, .int .i64 a1_1, .int .i64 a1_2, .int .i64 a1_3, .int .i64 a1_4, .int .i64 a1_5, .int .i64 a1_6, .int .i64 a1_7, .slice A1_8 l1_8.length c1_8] 47 (0, 0)) := ⟨bko gb264 (by rfl)⟩
     have n2_ : Bk ((w21.setCell ⟨gb269, 0, none⟩ (.int .i64 t266)).setCell ⟨gb269, 1, none⟩ (.int .i64 t267)) gb265 (.cells #[.int .i64 0, .int .i64 0] 40 (0, 0)) := ⟨bko gb265 (by rfl)⟩
     have n3_ : Bk ((w21.setCell ⟨gb269, 0, none⟩ (.int .i64 t266)).setCell ⟨gb269, 1, none⟩ (.int .i64 t267)) gb269 (.cells #[.int .i64 t266, .int .i64 t267] 103 (0, 0)) := ⟨bko gb269 (by rfl)⟩
     have n4_ : Bw w ((w21.setCell ⟨gb269, 0, none⟩ (.int .i64 t266)).setCell ⟨gb269, 1, none⟩ (.int .i64 t267)) := inferInstance
     (try clear BK263)
     (try clear BK264)
     (try clear BK265)
     (try clear BK269)
     (try clear HB)
     generalize ((w21.setCell ⟨gb269, 0, none⟩ (.int .i64 t266)).setCell ⟨gb269, 1, none⟩ (.int .i64 t267)) = w26 at n0_ n1_ n2_ n3_ n4_ ⊢
     have BK263 := n0_
     have BK264 := n1_
     have BK265 := n2_
     have BK269 := n3_
     have HB := n4_
     clear n0_ n1_ n2_ n3_ n4_
     have n0_ := Bk.mk (blk_drew BK263.out)
     have n1_ := Bk.mk (blk_drew BK264.out)
     have n2_ := Bk.mk (blk_drew BK265.out)
     have n3_ := Bk.mk (blk_drew BK269.out)
     have n4_ := Bw.mk (below_drew1 HB.out)
     clear BK263 BK264 BK265 BK269 HB
     have BK263 := n0_
     have BK264 := n1_
     have BK265 := n2_
     have BK269 := n3_
     have HB := n4_
     clear n0_ n1_ n2_ n3_ n4_
     have p270 : 0 ≤ (a2 : Int) := of_decide_eq_true (by first | (with_reducible assumption) | assumption)
     have q270 : a2 < (l1_8.length : Int) := of_decide_eq_true (by first | (with_reducible assumption) | assumption)
     obtain ⟨ad270, e270, hx270_0, hx270_1, hx270_2, hx270_3, hx270_4⟩ := at_T71 HR1_8.out a2 p270 q270
     have hw270_4 := hx270_4
     have hw270_3 := hx270_3
     have hw270_2 := hx270_2
     have hw270_1 := hx270_1
     have hw270_0 := hx270_0
     cases e270
     replace hx270_0 := cB HB hx270_0
     replace hx270_1 := cB HB hx270_1
     replace hx270_2 := cB HB hx270_2
     replace hx270_3 := cB HB hx270_3
     replace hx270_4 := cB HB hx270_4
     replace p270 := eq_true p270
     replace q270 := eq_true q270
     refine start_ (n := 13) (S := fun w' => w'.cell? ⟨gb264, 0, none⟩ = some (.int .i64 a1_0) ∧ w'.cell? ⟨gb264, 1, none⟩ = some (.int .i64 a1_1) ∧ w'.cell? ⟨gb264, 2, none⟩ = some (.int .i64 a1_2) ∧ w'.cell? ⟨gb264, 3, none⟩ = some (.int .i64 a1_3) ∧ w'.cell? ⟨gb264, 4, none⟩ = some (.int .i64 a1_4) ∧ w'.cell? ⟨gb264, 5, none⟩ = some (.int .i64 a1_5) ∧ w'.cell? ⟨gb264, 6, none⟩ = some (.int .i64 a1_6) ∧ w'.cell? ⟨gb264, 7, none⟩ = some (.int .i64 a1_7) ∧ w'.cell? ⟨gb264, 8, none⟩ = some (.slice (some ad270) l1_8.length c1_8) ∧ w'.cell? ⟨gb269, 0, none⟩ = some (.int .i64 t266) ∧ w'.cell? ⟨gb269, 1, none⟩ = some (.int .i64 t267) ∧ w'.cell? (ad270.add ((a2).toNat * 5)) = some (.int .i64 ((rd_T71 l1_8 a2).f0)) ∧ w'.cell? ⟨(ad270.add ((a2).toNat * 5)).block, (ad270.add ((a2).toNat * 5)).off + 1, none⟩ = some (.int .i64 ((rd_T71 l1_8 a2).f1)) ∧ w'.cell? ⟨(ad270.add ((a2).toNat * 5)).block, (ad270.add ((a2).toNat * 5)).off + 2, none⟩ = some (.int .i64 ((rd_T71 l1_8 a2).f2)) ∧ w'.cell? ⟨(ad270.add ((a2).toNat * 5)).block, (ad270.add ((a2).toNat * 5)).off + 3, none⟩ = some (.int .i64 ((rd_T71 l1_8 a2).f3)) ∧ w'.cell? ⟨(ad270.add ((a2).toNat * 5)).block, (ad270.add ((a2).toNat * 5)).off + 4, none⟩ = some (.int .i64 ((rd_T71 l1_8 a2).f4))) (ds := []) #[false, false, false, false, false, false, false, false, false, false, false, false, false] (by kernel_rfl) rfl rfl ⟨bc BK264 0, bc BK264 1, bc BK264 2, bc BK264 3, bc BK264 4, bc BK264 5, bc BK264 6, bc BK264 7, bc BK264 8, bc BK269 0, bc BK269 1, ((HB.out.cell (World.block_lt_of_cell? w _ hw270_0)).trans hw270_0), ((HB.out.cell (World.block_lt_of_cell? w _ hw270_1)).trans hw270_1), ((HB.out.cell (World.block_lt_of_cell? w _ hw270_2)).trans hw270_2), ((HB.out.cell (World.block_lt_of_cell? w _ hw270_3)).trans hw270_3), ((HB.out.cell (World.block_lt_of_cell? w _ hw270_4)).trans hw270_4)⟩ (fun hHeld => ?_); refine with_tabW course_Water.tab4 course_Water.bits4 (fun HT_ HW_ => ?_)
     generalize w26.drew = w27 at BK263 BK264 BK265 BK269 HB hx270_0 hx270_1 hx270_2 hx270_3 hx270_4 hHeld ⊢
     refine pS 1 (some 28) rfl rfl (any_of HT_.out (by kernel_rfl)) (fun _ _ _ h => h) (by rfl) (fun w' => by go_simp; with_reducible rfl) (by simp only [Act.put, List.setIfInBounds_toArray, List.set_cons_zero, List.set_cons_succ, i64_w]; rfl) ?_
     refine pS 3 (some 30) rfl rfl (any_of HT_.out (by kernel_rfl)) (fun _ _ _ h => h) (by rfl) (fun w' => by go_simp; with_reducible rfl) (by simp only [Act.put, List.setIfInBounds_toArray, List.set_cons_zero, List.set_cons_succ, i64_w]; rfl) ?_
     refine tS 0 (some 27) rfl rfl (take_ofW HT_.out HW_.out (by kernel_rfl)) (fun _ _ _ h => h) (by rfl) (by rintro w' ⟨s0, s1, s2, s3, s4, s5, s6, s7, s8, s9, s10, s11, s12, s13, s14, s15⟩; go_simp; with_reducible rfl) hHeld (by simp only [Act.put, List.setIfInBounds_toArray, List.set_cons_zero, List.set_cons_succ, i64_w]; rfl) ?_
     refine tS 2 (some 29) rfl rfl (take_ofW HT_.out HW_.out (by kernel_rfl)) (fun _ _ _ h => h) (by rfl) (by rintro w' ⟨s0, s1, s2, s3, s4, s5, s6, s7, s8, s9, s10, s11, s12, s13, s14, s15⟩; go_simp; with_reducible rfl) hHeld (by simp only [Act.put, List.setIfInBounds_toArray, List.set_cons_zero, List.set_cons_succ, i64_w]; rfl) ?_
     refine pS 4 (some 31) rfl rfl (any_of HT_.out (by kernel_rfl)) (fun _ _ _ h => h) (by rfl) (fun w' => by go_simp; with_reducible rfl) (by simp only [Act.put, List.setIfInBounds_toArray, List.set_cons_zero, List.set_cons_succ, i64_w]; rfl) ?_
     refine tS 5 (some 32) rfl rfl (take_ofW HT_.out HW_.out (by kernel_rfl)) (fun _ _ _ h => h) (by rfl) (by rintro w' ⟨s0, s1, s2, s3, s4, s5, s6, s7, s8, s9, s10, s11, s12, s13, s14, s15⟩; go_simp; with_reducible rfl) hHeld (by simp only [Act.put, List.setIfInBounds_toArray, List.set_cons_zero, List.set_cons_succ, i64_w]; rfl) ?_
     refine tS 6 (some 33) rfl rfl (take_ofW HT_.out HW_.out (by kernel_rfl)) (fun _ _ _ h => h) (by rfl) (by rintro w' ⟨s0, s1, s2, s3, s4, s5, s6, s7, s8, s9, s10, s11, s12, s13, s14, s15⟩; go_simp; with_reducible rfl) hHeld (by simp only [Act.put, List.setIfInBounds_toArray, List.set_cons_zero, List.set_cons_succ, i64_w]; rfl) ?_
     refine one_ (i := 7) (N := some 34) #[true, true, true, true, true, true, true, true, false, false, false, false, false] rfl rfl (one_of HT_.out (by kernel_rfl)) (by decide) (fun K hK => ?_)
     refine goesM Tryd.func86 (by kernel_rfl) rfl #[.agg #[.int .i64 a1_0, .int .i64 a1_1, .int .i64 a1_2, .int .i64 a1_3, .int .i64 a1_4, .int .i64 a1_5, .int .i64 a1_6, .int .i64 a1_7, .slice (some ad270) l1_8.length c1_8], .agg #[.int .i64 ((rd_T71 l1_8 a2).f0), .int .i64 ((rd_T71 l1_8 a2).f1), .int .i64 ((rd_T71 l1_8 a2).f2), .int .i64 ((rd_T71 l1_8 a2).f3), .int .i64 ((rd_T71 l1_8 a2).f4)], .agg #[.int .i64 t266, .int .i64 t267]] (by rfl) rfl rfl (by rfl) ?_
     with_reducible refine (course_snow.calls a1_0 a1_1 a1_2 a1_3 a1_4 a1_5 a1_6 a1_7 _ _ l1_8 ((rd_T71 l1_8 a2).f0) ((rd_T71 l1_8 a2).f1) ((rd_T71 l1_8 a2).f2) ((rd_T71 l1_8 a2).f3) ((rd_T71 l1_8 a2).f4) t266 t267 t271 t272 _ ?side1 ?side2 A9.out).mono ?_
     (case side1 => exact cP (Kd.C_below HR1_8.out HB.out))
     (case side2 => exact HC1_8.out)
     rintro e w28 ⟨rfl, hb⟩
     refine ⟨_, rfl, ?_⟩
     replace BK263 := kB gb263 hb
     replace BK264 := kB gb264 hb
     replace BK265 := kB gb265 hb
     replace BK269 := kB gb269 hb
     replace HB := bS w hb
     (try clear hb)
     refine hK.out _ _ ⟨bc BK264 0, bc BK264 1, bc BK264 2, bc BK264 3, bc BK264 4, bc BK264 5, bc BK264 6, bc BK264 7, bc BK264 8, bc BK269 0, bc BK269 1, ((HB.out.cell (World.block_lt_of_cell? w _ hw270_0)).trans hw270_0), ((HB.out.cell (World.block_lt_of_cell? w _ hw270_1)).trans hw270_1), ((HB.out.cell (World.block_lt_of_cell? w _ hw270_2)).trans hw270_2), ((HB.out.cell (World.block_lt_of_cell? w _ hw270_3)).trans hw270_3), ((HB.out.cell (World.block_lt_of_cell? w _ hw270_4)).trans hw270_4)⟩ (fun hHeld => ?_)
     clear hK K
     refine norm_ (a' := ?_) ?_ ?_
     rotate_left
     ·
      show Act.put _ (some 34) _ = _
      simp only [Act.put, List.setIfInBounds_toArray, List.set_cons_zero, List.set_cons_succ, i64_w]
      rfl
     refine pS 8 (some 26) rfl rfl (any_of HT_.out (by kernel_rfl)) (fun _ _ _ h => h) (by rfl) (fun w' => by go_simp; with_reducible rfl) (by simp only [Act.put, List.setIfInBounds_toArray, List.set_cons_zero, List.set_cons_succ, i64_w]; rfl) ?_
     refine pS 9 (some 35) rfl rfl (any_of HT_.out (by kernel_rfl)) (fun _ _ _ h => h) (by rfl) (fun w' => by go_simp; with_reducible rfl) (by simp only [Act.put, List.setIfInBounds_toArray, List.set_cons_zero, List.set_cons_succ, i64_w]; rfl) ?_
     refine pS 10 (some 36) rfl rfl (any_of HT_.out (by kernel_rfl)) (fun _ _ _ h => h) (by rfl) (fun w' => by go_simp; with_reducible rfl) (by simp only [Act.put, List.setIfInBounds_toArray, List.set_cons_zero, List.set_cons_succ, i64_w]; rfl) ?_
     refine pS 11 (some 12) rfl rfl (any_of HT_.out (by kernel_rfl)) (fun _ _ _ h => h) (by rfl) (fun w' => by go_simp; with_reducible rfl) (by simp only [Act.put, List.setIfInBounds_toArray, List.set_cons_zero, List.set_cons_succ, i64_w]; rfl) ?_
     refine pS 12 (some 13) rfl rfl (any_of HT_.out (by kernel_rfl)) (fun _ _ _ h => h) (by rfl) (fun w' => by go_simp; with_reducible rfl) (by simp only [Act.put, List.setIfInBounds_toArray, List.set_cons_zero, List.set_cons_succ, i64_w]; rfl) ?_
     refine done_ (done_of HT_.out (by kernel_rfl)) ?_
     try go_wp2
     have n0_ := Bk.mk (blk_drew BK263.out)
     have n1_ := Bk.mk (blk_drew BK264.out)
     have n2_ := Bk.mk (blk_drew BK265.out)
     have n3_ := Bk.mk (blk_drew BK269.out)
     have n4_ := Bw.mk (below_drew1 HB.out)
     clear BK263 BK264 BK265 BK269 HB
     have BK263 := n0_
     have BK264 := n1_
     have BK265 := n2_
     have BK269 := n3_
     have HB := n4_
     clear n0_ n1_ n2_ n3_ n4_
     refine start_ (n := 12) (S := fun w' => w'.cell? ⟨gb264, 0, none⟩ = some (.int .i64 a1_0) ∧ w'.cell? ⟨gb264, 1, none⟩ = some (.int .i64 a1_1) ∧ w'.cell? ⟨gb264, 2, none⟩ = some (.int .i64 a1_2) ∧ w'.cell? ⟨gb264, 3, none⟩ = some (.int .i64 a1_3) ∧ w'.cell? ⟨gb264, 4, none⟩ = some (.int .i64 a1_4) ∧ w'.cell? ⟨gb264, 5, none⟩ = some (.int .i64 a1_5) ∧ w'.cell? ⟨gb264, 6, none⟩ = some (.int .i64 a1_6) ∧ w'.cell? ⟨gb264, 7, none⟩ = some (.int .i64 a1_7) ∧ w'.cell? ⟨gb264, 8, none⟩ = some (.slice (some ad270) l1_8.length c1_8)) (ds := []) #[false, false, false, false, false, false, false, false, false, false, false, false] (by kernel_rfl) rfl rfl ⟨bc BK264 0, bc BK264 1, bc BK264 2, bc BK264 3, bc BK264 4, bc BK264 5, bc BK264 6, bc BK264 7, bc BK264 8⟩ (fun hHeld => ?_); refine with_tabW course_Water.tab5 course_Water.bits5 (fun HT_ HW_ => ?_)
     generalize w28.drew = w29 at BK263 BK264 BK265 BK269 HB hHeld ⊢
     refine pS 0 (some 37) rfl rfl (any_of HT_.out (by kernel_rfl)) (fun _ _ _ h => h) (by rfl) (fun w' => by go_simp; with_reducible rfl) (by simp only [Act.put, List.setIfInBounds_toArray, List.set_cons_zero, List.set_cons_succ, i64_w]; rfl) ?_
     refine pS 1 (some 38) rfl rfl (any_of HT_.out (by kernel_rfl)) (fun _ _ _ h => h) (by rfl) (fun w' => by go_simp; with_reducible rfl) (by simp only [Act.put, List.setIfInBounds_toArray, List.set_cons_zero, List.set_cons_succ, i64_w]; rfl) ?_
     refine pS 5 (some 42) rfl rfl (any_of HT_.out (by kernel_rfl)) (fun _ _ _ h => h) (by rfl) (fun w' => by go_simp; with_reducible rfl) (by simp only [Act.put, List.setIfInBounds_toArray, List.set_cons_zero, List.set_cons_succ, i64_w]; rfl) ?_
     refine pS 6 (some 43) rfl rfl (any_of HT_.out (by kernel_rfl)) (fun _ _ _ h => h) (by rfl) (fun w' => by go_simp; with_reducible rfl) (by simp only [Act.put, List.setIfInBounds_toArray, List.set_cons_zero, List.set_cons_succ, i64_w]; rfl) ?_
     refine tS 2 (some 39) rfl rfl (take_ofW HT_.out HW_.out (by kernel_rfl)) (fun _ _ _ h => h) (by rfl) (by rintro w' ⟨s0, s1, s2, s3, s4, s5, s6, s7, s8⟩; go_simp; with_reducible rfl) hHeld (by simp only [Act.put, List.setIfInBounds_toArray, List.set_cons_zero, List.set_cons_succ, i64_w]; rfl) ?_
     refine pS 3 (some 40) rfl rfl (any_of HT_.out (by kernel_rfl)) (fun _ _ _ h => h) (by rfl) (fun w' => by go_simp; with_reducible rfl) (by simp only [Act.put, List.setIfInBounds_toArray, List.set_cons_zero, List.set_cons_succ, i64_w]; rfl) ?_
     refine pS 4 (some 41) rfl rfl (any_of HT_.out (by kernel_rfl)) (fun _ _ _ h => h) (by rfl) (fun w' => by go_simp; with_reducible rfl) (by simp only [Act.put, List.setIfInBounds_toArray, List.set_cons_zero, List.set_cons_succ, i64_w]; rfl) ?_
     refine tS 7 (some 44) rfl rfl (take_ofW HT_.out HW_.out (by kernel_rfl)) (fun _ _ _ h => h) (by rfl) (by rintro w' ⟨s0, s1, s2, s3, s4, s5, s6, s7, s8⟩; go_simp; with_reducible rfl) hHeld (by simp only [Act.put, List.setIfInBounds_toArray, List.set_cons_zero, List.set_cons_succ, i64_w]; rfl) ?_
     refine one_ (i := 8) (N := some 45) #[true, true, true, true, true, true, true, true, true, false, false, false] rfl rfl (one_of HT_.out (by kernel_rfl)) (by decide) (fun K hK => ?_)
     refine goesM Tryd.func87 (by kernel_rfl) rfl #[.int .i64 t272, .int .i64 a1_5] (by rfl) rfl rfl (by rfl) ?_
     with_reducible refine (course_up.calls t272 a1_5 t273 _ A11.out).mono ?_
     rintro e w' ⟨rfl, ⟨nd, rfl⟩⟩
     refine ⟨_, rfl, ?_⟩
     refine hK.out _ _ ⟨bc BK264 0, bc BK264 1, bc BK264 2, bc BK264 3, bc BK264 4, bc BK264 5, bc BK264 6, bc BK264 7, bc BK264 8⟩ (fun hHeld => ?_)
     clear hK K
     refine norm_ (a' := ?_) ?_ ?_
     rotate_left
     ·
      show Act.put _ (some 45) _ = _
      simp only [Act.put, List.setIfInBounds_toArray, List.set_cons_zero, List.set_cons_succ, i64_w]
      rfl
     refine pS 9 (some 46) rfl rfl (any_of HT_.out (by kernel_rfl)) (fun _ _ _ h => h) (by rfl) (fun w' => by go_simp; with_reducible rfl) (by simp only [Act.put, List.setIfInBounds_toArray, List.set_cons_zero, List.set_cons_succ, i64_w]; rfl) ?_
     refine one_ (i := 10) (N := none) #[true, true, true, true, true, true, true, true, true, true, true, false] rfl rfl (one_of HT_.out (by kernel_rfl)) (by decide) (fun K hK => ?_)
     have hs30 : w29.cell? ⟨gb265, 0, none⟩ = some (.int .i64 0) := bc BK265 0
     have hfs30 := blk_frozen BK265.out 0
     have hns30_0 := NB263_265.out
     have hns30_1 := NB264_265.out
     have hns30_3 := NB265_269.out.symm
     have hms30_0 := NB263_265.out.symm
     have hms30_1 := NB264_265.out.symm
     have hms30_3 := NB265_269.out
     have hs31 : w29.cell? ⟨gb265, 1, none⟩ = some (.int .i64 0) := bc BK265 1
     have hfs31 := blk_frozen BK265.out 1
     have hns31_0 := NB263_265.out
     have hns31_1 := NB264_265.out
     have hns31_3 := NB265_269.out.symm
     have hms31_0 := NB263_265.out.symm
     have hms31_1 := NB264_265.out.symm
     have hms31_3 := NB265_269.out
     refine skip_ (w1 := ?_) (by rfl) rfl ?_ ?_
     rotate_left
     ·
      go_simp
      rfl
     refine hK.out _ _ ⟨((cell_far (p := ⟨gb265, _, none⟩) NB264_265.out _).trans (((cell_far (p := ⟨gb265, _, none⟩) NB264_265.out _).trans (hHeld.1)))), ((cell_far (p := ⟨gb265, _, none⟩) NB264_265.out _).trans (((cell_far (p := ⟨gb265, _, none⟩) NB264_265.out _).trans (hHeld.2.1)))), ((cell_far (p := ⟨gb265, _, none⟩) NB264_265.out _).trans (((cell_far (p := ⟨gb265, _, none⟩) NB264_265.out _).trans (hHeld.2.2.1)))), ((cell_far (p := ⟨gb265, _, none⟩) NB264_265.out _).trans (((cell_far (p := ⟨gb265, _, none⟩) NB264_265.out _).trans (hHeld.2.2.2.1)))), ((cell_far (p := ⟨gb265, _, none⟩) NB264_265.out _).trans (((cell_far (p := ⟨gb265, _, none⟩) NB264_265.out _).trans (hHeld.2.2.2.2.1)))), ((cell_far (p := ⟨gb265, _, none⟩) NB264_265.out _).trans (((cell_far (p := ⟨gb265, _, none⟩) NB264_265.out _).trans (hHeld.2.2.2.2.2.1)))), ((cell_far (p := ⟨gb265, _, none⟩) NB264_265.out _).trans (((cell_far (p := ⟨gb265, _, none⟩) NB264_265.out _).trans (hHeld.2.2.2.2.2.2.1)))), ((cell_far (p := ⟨gb265, _, none⟩) NB264_265.out _).trans (((cell_far (p := ⟨gb265, _, none⟩) NB264_265.out _).trans (hHeld.2.2.2.2.2.2.2.1)))), ((cell_far (p := ⟨gb265, _, none⟩) NB264_265.out _).trans (((cell_far (p := ⟨gb265, _, none⟩) NB264_265.out _).trans (hHeld.2.2.2.2.2.2.2.2))))⟩ (fun hHeld => ?_)
     clear hK K
     refine pS 11 (some 9) rfl rfl (any_of HT_.out (by kernel_rfl)) (fun _ _ _ h => h) (by rfl) (fun w' => by go_simp; with_reducible rfl) (by simp only [Act.put, List.setIfInBounds_toArray, List.set_cons_zero, List.set_cons_succ, i64_w]; rfl) ?_
     refine done_ (done_of HT_.out (by kernel_rfl)) ?_
     try go_wp2
     all_goals (refine bodyPost_ret (results_ct rfl _ _ gb265 40 #[.int .i64 (wrap64 (Int.tdiv t271 (wrap64 (20 * a1_5)))), .int .i64 t273] (0, 0) _ rfl (bko gb265 (by rfl)) Tryd.underlying40 rfl (by kernel_rfl)) rfl ?_; exact ⟨by first | rfl | (simp [errW_none, errW_some] <;> rfl) | (simp [*, errW_none, errW_some] <;> rfl), bw w⟩)
   ·
    rw [if_neg c8] at H
    exact absurd H (by simp)
  ·
   rw [if_neg c7] at H
   exact absurd H (by simp)
 ·
  rw [if_neg c6] at H
  have c6b0 : (t268 == 0) = false := beq_eq_false_iff_ne.mpr c6
  have c6b1 : (t268 != 0) = true := bne_iff_ne.mpr c6
  simp only [Option.some.injEq, Prod.mk.injEq] at H
  obtain ⟨rfl, rfl, rfl⟩ := H
  go_enter Tryd.func29, Tryd.ntmps29
  go_wp2_with (first | ((with_reducible refine gate_dst (N := 4) rfl ?_); refine bxE 4 24 #[.int .i64 a0_0, .int .i64 a0_1, .slice A0_2 l0_2.length c0_2] (by rfl) (by rfl) (by first | (go_simp; done) | (go_simp; rfl)) ?_; intro gb263 hg w32 hbox hb; have BK263 := Bk.mk (hbox); have GE263 := eB w hg; replace HB := bS w hb; clear hb hbox hg) | ((with_reducible refine gate_dst (N := 5) rfl ?_); refine bxE 5 47 #[.int .i64 a1_0, .int .i64 a1_1, .int .i64 a1_2, .int .i64 a1_3, .int .i64 a1_4, .int .i64 a1_5, .int .i64 a1_6, .int .i64 a1_7, .slice A1_8 l1_8.length c1_8] (by rfl) (by rfl) (by first | (go_simp; done) | (go_simp; rfl)) ?_; intro gb264 hg w33 hbox hb; have BK264 := Bk.mk (hbox); have GE264 := eB w hg; have NB263_264 := nB gb263 hg; replace BK263 := kB gb263 hb; replace HB := bS w hb; clear hb hbox hg) | ((with_reducible refine gate_dst (N := 8) rfl ?_); refine bxE 8 40 #[.int .i64 0, .int .i64 0] (by rfl) (by rfl) (by first | (go_simp; done) | (go_simp; rfl)) ?_; intro gb265 hg w34 hbox hb; have BK265 := Bk.mk (hbox); have GE265 := eB w hg; have NB263_265 := nB gb263 hg; have NB264_265 := nB gb264 hg; replace BK263 := kB gb263 hb; replace BK264 := kB gb264 hb; replace HB := bS w hb; clear hb hbox hg; obtain ⟨hnb35, hnc35⟩ := nn NB263_264; obtain ⟨hnb36, hnc36⟩ := nn NB263_265; obtain ⟨hcz37_0, hcz37_1, hcz37_2, hfz37_0, hfz37_1, hfz37_2⟩ := cz3 BK263; obtain ⟨hnb38, hnc38⟩ := nn NB264_265; obtain ⟨hcz39_0, hcz39_1, hcz39_2, hcz39_3, hcz39_4, hcz39_5, hcz39_6, hcz39_7, hcz39_8, hfz39_0, hfz39_1, hfz39_2, hfz39_3, hfz39_4, hfz39_5, hfz39_6, hfz39_7, hfz39_8⟩ := cz9 BK264) | ((with_reducible refine gate_callee (f := 81) rfl ?_); refine goesLM (some 19) rfl rfl Tryd.func81 (by kernel_rfl) rfl #[.agg #[.int .i64 a0_0, .int .i64 a0_1, .slice A0_2 l0_2.length c0_2], .agg #[.int .i64 a1_0, .int .i64 a1_1, .int .i64 a1_2, .int .i64 a1_3, .int .i64 a1_4, .int .i64 a1_5, .int .i64 a1_6, .int .i64 a1_7, .slice A1_8 l1_8.length c1_8], .int .i64 a2, .int .i64 a3] rfl (by rfl) ?_; (with_reducible refine (course_look.calls k a0_0 a0_1 _ _ l0_2 a1_0 a1_1 a1_2 a1_3 a1_4 a1_5 a1_6 a1_7 _ _ l1_8 a2 a3 t266 t267 t268 _ ?side1 ?side2 ?side3 ?side4 A5.out).mono ?_); (case side1 => exact cP (Kd.C_below HR0_2.out HB.out)); (case side2 => exact HC0_2.out); (case side3 => exact cP (Kd.C_below HR1_8.out HB.out)); (case side4 => exact HC1_8.out); rintro e w40 ⟨rfl, hb⟩; refine ⟨_, rfl, ?_⟩; replace BK263 := kB gb263 hb; replace BK264 := kB gb264 hb; replace BK265 := kB gb265 hb; replace HB := bS w hb; (try clear hb)) | ((with_reducible refine gate_dst (N := 10) rfl ?_); refine bxE 10 103 #[.int .i64 0, .int .i64 0] (by rfl) (by rfl) (by first | (go_simp; done) | (go_simp; rfl)) ?_; intro gb269 hg w41 hbox hb; have BK269 := Bk.mk (hbox); have GE269 := eB w hg; have NB263_269 := nB gb263 hg; have NB264_269 := nB gb264 hg; have NB265_269 := nB gb265 hg; replace BK263 := kB gb263 hb; replace BK264 := kB gb264 hb; replace BK265 := kB gb265 hb; replace HB := bS w hb; clear hb hbox hg; obtain ⟨hnc42, hnb42⟩ := nn NB263_269; obtain ⟨hnc43, hnb43⟩ := nn NB264_269; obtain ⟨hnc44, hnb44⟩ := nn NB265_269; obtain ⟨hcz45_0, hcz45_1, hfz45_0, hfz45_1⟩ := cz2 BK269; obtain ⟨hcz46_0, hcz46_1, hfz46_0, hfz46_1⟩ := cz2 BK265))
  all_goals (refine bodyPost_ret (results_ct rfl _ _ gb265 40 #[.int .i64 0, .int .i64 0] (0, 0) _ rfl (bko gb265 (by rfl)) Tryd.underlying40 rfl (by kernel_rfl)) rfl ?_; exact ⟨by first | rfl | (simp [errW_none, errW_some] <;> rfl) | (simp [*, errW_none, errW_some] <;> rfl), bw w⟩)
def course_Density.f (k : Nat) (a0_0 : Int) (a0_1 : Int) (l0_2 : List (S26)) (a1_0 : Int) (a1_1 : Int) (a1_2 : Int) (a1_3 : Int) (a1_4 : Int) (a1_5 : Int) (a1_6 : Int) (a1_7 : Int) (l1_8 : List (S71)) (a2 : Int) (a3 : Int) : Option (Int × Int × Int) := (course_stakeOf.f k a0_0 a0_1 l0_2 a1_0 a1_1 a1_2 a1_3 a1_4 a1_5 a1_6 a1_7 l1_8 a2 a3).bind fun t311 => (if t311 = 0 then (if 0 ≤ a2 then (if a2 < (l1_8.length : Int) then (if ((rd_T71 l1_8 a2).f0) = 0 then (some (0, 0, 4)) else ((course_turns.f k a0_0 a0_1 l0_2 a1_0 a1_1 a1_2 a1_3 a1_4 a1_5 a1_6 a1_7 l1_8 a3).bind fun bt314 => (if bt314.2.2 = 0 then ((course_snow.f a1_0 a1_1 a1_2 a1_3 a1_4 a1_5 a1_6 a1_7 l1_8 ((rd_T71 l1_8 a2).f0) ((rd_T71 l1_8 a2).f1) ((rd_T71 l1_8 a2).f2) ((rd_T71 l1_8 a2).f3) ((rd_T71 l1_8 a2).f4) bt314.1 bt314.2.1).bind fun bt318 => (if (wrap64 ((wrap64 (20 * a1_5)) * ((rd_T71 l1_8 a2).f0))) = 0 then (none) else ((course_up.f (wrap64 (1000 * bt318.2)) (wrap64 (a1_5 * ((rd_T71 l1_8 a2).f0)))).bind fun t320 => (some (wrap64 (Int.tdiv (wrap64 (1000 * bt318.1)) (wrap64 ((wrap64 (20 * a1_5)) * ((rd_T71 l1_8 a2).f0)))), t320, 0))))) else (some (0, 0, bt314.2.2))))) else (none)) else (none)) else (some (0, 0, t311)))
theorem course_Density.mono : ∀ a0 a1 a2 a3 a4 a5 a6 a7 a8 a9 a10 a11 a12 a13 k, LeO (course_Density.f k a0 a1 a2 a3 a4 a5 a6 a7 a8 a9 a10 a11 a12 a13) (course_Density.f (k + 1) a0 a1 a2 a3 a4 a5 a6 a7 a8 a9 a10 a11 a12 a13) := by
 intro a0 a1 a2 a3 a4 a5 a6 a7 a8 a9 a10 a11 a12 a13 k
 unfold course_Density.f
 repeat' first
   | (with_reducible exact course_stakeOf.mono _ _ _ _ _ _ _ _ _ _ _ _ _ _ _)
   | (with_reducible exact course_turns.mono _ _ _ _ _ _ _ _ _ _ _ _ _ _)
   | (with_reducible exact LeO.refl _)
   | (with_reducible exact LeO.none _)
   | (with_reducible refine LeO.ite ?_ ?_)
   | (with_reducible refine LeO.bind ?_ (fun _ => ?_))
   | exact course_stakeOf.mono _ _ _ _ _ _ _ _ _ _ _ _ _ _ _
   | exact course_turns.mono _ _ _ _ _ _ _ _ _ _ _ _ _ _
   | exact LeO.none _
   | refine LeO.ite ?_ ?_
   | refine LeO.bind ?_ (fun _ => ?_)
def course_Density.T11 : Bool × List (List Nat × List Nat) := (true, [([], []), ([0], [0]), ([], []), ([2], [2]), ([3], [3]), ([], []), ([5], [5]), ([4, 6], [4, 6]), ([1, 7], [1, 7]), ([], []), ([9], [9]), ([], []), ([11], [11]), ([], []), ([13], [13]), ([12, 14], [12, 14]), ([10, 15], [10, 15]), ([8, 16], [8, 16]), ([17, 16, 0, 1, 2, 3, 4, 5, 6, 7, 8, 9, 10, 11, 12, 13, 14, 15, 16, 17], [17]), ([18, 0, 1, 2, 3, 4, 5, 6, 7, 8, 9, 10, 11, 12, 13, 14, 15, 16, 17, 18], [])])
def course_Density.B11 : List Nat := [0, 1, 0, 4, 12, 0, 32, 124, 255, 0, 512, 0, 2048, 0, 8192, 30720, 65024, 131071, 262143, 524287]
theorem course_Density.tab11 : rtab .any (opsOf Tryd.f44 11) = course_Density.T11 := by kernel_rfl
theorem course_Density.bits11 : waitsOk course_Density.T11.2 course_Density.B11 = true := by kernel_rfl
set_option maxHeartbeats 8000000 in
set_option maxRecDepth 100000 in
theorem course_Density.calls (k : Nat) (a0_0 : Int) (a0_1 : Int) (A0_2 : Option Addr) (c0_2 : Nat) (l0_2 : List (S26)) (a1_0 : Int) (a1_1 : Int) (a1_2 : Int) (a1_3 : Int) (a1_4 : Int) (a1_5 : Int) (a1_6 : Int) (a1_7 : Int) (A1_8 : Option Addr) (c1_8 : Nat) (l1_8 : List (S71)) (a2 : Int) (a3 : Int) (r1 : Int) (r2 : Int) (r3 : Int) (w : World) (hr0_2 : Kd.C k26 w A0_2 l0_2.length l0_2) (hc0_2 : l0_2.length ≤ c0_2) (hr1_8 : Kd.C k71 w A1_8 l1_8.length l1_8) (hc1_8 : l1_8.length ≤ c1_8) (h : course_Density.f k a0_0 a0_1 l0_2 a1_0 a1_1 a1_2 a1_3 a1_4 a1_5 a1_6 a1_7 l1_8 a2 a3 = some (r1, r2, r3)) :
  Calls Tryd.prog 44 #[.agg #[.int .i64 a0_0, .int .i64 a0_1, .slice A0_2 l0_2.length c0_2], .agg #[.int .i64 a1_0, .int .i64 a1_1, .int .i64 a1_2, .int .i64 a1_3, .int .i64 a1_4, .int .i64 a1_5, .int .i64 a1_6, .int .i64 a1_7, .slice A1_8 l1_8.length c1_8], .int .i64 a2, .int .i64 a3] w fun e w' => e = .returned (.tuple #[.agg #[.int .i64 r1, .int .i64 r2], .int .i64 r3]) ∧ Below w.heap.size w w' := by
 have hu24 := Tryd.underlying24
 have hu47 := Tryd.underlying47
 have hu40 := Tryd.underlying40
 have hu71 := Tryd.underlying71
 have hu103 := Tryd.underlying103
 have HR0_2 := Aside0.mk (hr0_2)
 have HC0_2 := Aside0.mk (hc0_2)
 clear hr0_2 hc0_2
 have HR1_8 := Aside0.mk (hr1_8)
 have HC1_8 := Aside0.mk (hc1_8)
 clear hr1_8 hc1_8
 have HB := Bw.mk (Below.refl w.heap.size w)
 have H : ((course_stakeOf.f k a0_0 a0_1 l0_2 a1_0 a1_1 a1_2 a1_3 a1_4 a1_5 a1_6 a1_7 l1_8 a2 a3).bind fun t311 => (if t311 = 0 then (if 0 ≤ a2 then (if a2 < (l1_8.length : Int) then (if ((rd_T71 l1_8 a2).f0) = 0 then (some (0, 0, 4)) else ((course_turns.f k a0_0 a0_1 l0_2 a1_0 a1_1 a1_2 a1_3 a1_4 a1_5 a1_6 a1_7 l1_8 a3).bind fun bt314 => (if bt314.2.2 = 0 then ((course_snow.f a1_0 a1_1 a1_2 a1_3 a1_4 a1_5 a1_6 a1_7 l1_8 ((rd_T71 l1_8 a2).f0) ((rd_T71 l1_8 a2).f1) ((rd_T71 l1_8 a2).f2) ((rd_T71 l1_8 a2).f3) ((rd_T71 l1_8 a2).f4) bt314.1 bt314.2.1).bind fun bt318 => (if (wrap64 ((wrap64 (20 * a1_5)) * ((rd_T71 l1_8 a2).f0))) = 0 then (none) else ((course_up.f (wrap64 (1000 * bt318.2)) (wrap64 (a1_5 * ((rd_T71 l1_8 a2).f0)))).bind fun t320 => (some (wrap64 (Int.tdiv (wrap64 (1000 * bt318.1)) (wrap64 ((wrap64 (20 * a1_5)) * ((rd_T71 l1_8 a2).f0)))), t320, 0))))) else (some (0, 0, bt314.2.2))))) else (none)) else (none)) else (some (0, 0, t311)))) = some (r1, r2, r3) := h
 clear h
 replace H := Option.bind_eq_some_iff.mp H
 obtain ⟨t311, A50, H⟩ := H
 have A5 := Aside0.mk (A50)
 clear A50
 by_cases c6 : t311 = 0
 ·
  rw [if_pos c6] at H
  have c6b0 : (t311 == 0) = true := beq_iff_eq.mpr c6
  have c6b1 : (t311 != 0) = false := bne_eq_false_iff_eq.mpr c6
  clear c6
  by_cases c7 : 0 ≤ a2
  ·
   rw [if_pos c7] at H
   have c7b0 : decide (0 ≤ a2) = true := decide_eq_true c7
   clear c7
   by_cases c8 : a2 < (l1_8.length : Int)
   ·
    rw [if_pos c8] at H
    have c8b0 : decide (a2 < (l1_8.length : Int)) = true := decide_eq_true c8
    clear c8
    by_cases c9 : ((rd_T71 l1_8 a2).f0) = 0
    ·
     rw [if_pos c9] at H
     have c9b0 : (((rd_T71 l1_8 a2).f0) == 0) = true := beq_iff_eq.mpr c9
     have c9b1 : (((rd_T71 l1_8 a2).f0) != 0) = false := bne_eq_false_iff_eq.mpr c9
     clear c9
     simp only [Option.some.injEq, Prod.mk.injEq] at H
     obtain ⟨rfl, rfl, rfl⟩ := H
     go_enter Tryd.func44, Tryd.ntmps44
     go_wp2_with (first | ((with_reducible refine gate_dst (N := 4) rfl ?_); refine bxE 4 24 #[.int .i64 a0_0, .int .i64 a0_1, .slice A0_2 l0_2.length c0_2] (by rfl) (by rfl) (by first | (go_simp; done) | (go_simp; rfl)) ?_; intro gb308 hg w10 hbox hb; have BK308 := Bk.mk (hbox); have GE308 := eB w hg; replace HB := bS w hb; clear hb hbox hg) | ((with_reducible refine gate_dst (N := 5) rfl ?_); refine bxE 5 47 #[.int .i64 a1_0, .int .i64 a1_1, .int .i64 a1_2, .int .i64 a1_3, .int .i64 a1_4, .int .i64 a1_5, .int .i64 a1_6, .int .i64 a1_7, .slice A1_8 l1_8.length c1_8] (by rfl) (by rfl) (by first | (go_simp; done) | (go_simp; rfl)) ?_; intro gb309 hg w11 hbox hb; have BK309 := Bk.mk (hbox); have GE309 := eB w hg; have NB308_309 := nB gb308 hg; replace BK308 := kB gb308 hb; replace HB := bS w hb; clear hb hbox hg) | ((with_reducible refine gate_dst (N := 8) rfl ?_); refine bxE 8 40 #[.int .i64 0, .int .i64 0] (by rfl) (by rfl) (by first | (go_simp; done) | (go_simp; rfl)) ?_; intro gb310 hg w12 hbox hb; have BK310 := Bk.mk (hbox); have GE310 := eB w hg; have NB308_310 := nB gb308 hg; have NB309_310 := nB gb309 hg; replace BK308 := kB gb308 hb; replace BK309 := kB gb309 hb; replace HB := bS w hb; clear hb hbox hg; obtain ⟨hnb13, hnc13⟩ := nn NB308_309; obtain ⟨hnb14, hnc14⟩ := nn NB308_310; obtain ⟨hcz15_0, hcz15_1, hcz15_2, hfz15_0, hfz15_1, hfz15_2⟩ := cz3 BK308; obtain ⟨hnb16, hnc16⟩ := nn NB309_310; obtain ⟨hcz17_0, hcz17_1, hcz17_2, hcz17_3, hcz17_4, hcz17_5, hcz17_6, hcz17_7, hcz17_8, hfz17_0, hfz17_1, hfz17_2, hfz17_3, hfz17_4, hfz17_5, hfz17_6, hfz17_7, hfz17_8⟩ := cz9 BK309) | ((with_reducible refine gate_callee (f := 104) rfl ?_); refine goesLM (some 20) rfl rfl Tryd.func104 (by kernel_rfl) rfl #[.agg #[.int .i64 a0_0, .int .i64 a0_1, .slice A0_2 l0_2.length c0_2], .agg #[.int .i64 a1_0, .int .i64 a1_1, .int .i64 a1_2, .int .i64 a1_3, .int .i64 a1_4, .int .i64 a1_5, .int .i64 a1_6, .int .i64 a1_7, .slice A1_8 l1_8.length c1_8], .int .i64 a2, .int .i64 a3] rfl (by rfl) ?_; (with_reducible refine (course_stakeOf.calls k a0_0 a0_1 _ _ l0_2 a1_0 a1_1 a1_2 a1_3 a1_4 a1_5 a1_6 a1_7 _ _ l1_8 a2 a3 t311 _ ?side1 ?side2 ?side3 ?side4 A5.out).mono ?_); (case side1 => exact cP (Kd.C_below HR0_2.out HB.out)); (case side2 => exact HC0_2.out); (case side3 => exact cP (Kd.C_below HR1_8.out HB.out)); (case side4 => exact HC1_8.out); rintro e w18 ⟨rfl, hb⟩; refine ⟨_, rfl, ?_⟩; replace BK308 := kB gb308 hb; replace BK309 := kB gb309 hb; replace BK310 := kB gb310 hb; replace HB := bS w hb; (try clear hb); obtain ⟨hcz19_0, hcz19_1, hcz19_2, hcz19_3, hcz19_4, hcz19_5, hcz19_6, hcz19_7, hcz19_8, hfz19_0, hfz19_1, hfz19_2, hfz19_3, hfz19_4, hfz19_5, hfz19_6, hfz19_7, hfz19_8⟩ := cz9 BK309; have p312 : 0 ≤ (a2 : Int) := of_decide_eq_true (by first | (with_reducible assumption) | assumption); have q312 : a2 < (l1_8.length : Int) := of_decide_eq_true (by first | (with_reducible assumption) | assumption); obtain ⟨ad312, e312, hx312_0, hx312_1, hx312_2, hx312_3, hx312_4⟩ := at_T71 HR1_8.out a2 p312 q312; cases e312; replace hx312_0 := cB HB hx312_0; replace hx312_1 := cB HB hx312_1; replace hx312_2 := cB HB hx312_2; replace hx312_3 := cB HB hx312_3; replace hx312_4 := cB HB hx312_4; replace p312 := eq_true p312; replace q312 := eq_true q312) | ((with_reducible refine gate_dst (N := 11) rfl ?_); refine bxE 11 71 #[.int .i64 0, .int .i64 0, .int .i64 0, .int .i64 0, .int .i64 0] (by rfl) (by rfl) (by first | (go_simp; done) | (go_simp; rfl)) ?_; intro gb313 hg w20 hbox hb; have BK313 := Bk.mk (hbox); have GE313 := eB w hg; have NB308_313 := nB gb308 hg; have NB309_313 := nB gb309 hg; have NB310_313 := nB gb310 hg; replace BK308 := kB gb308 hb; replace BK309 := kB gb309 hb; replace BK310 := kB gb310 hb; replace HB := bS w hb; clear hb hbox hg; obtain ⟨hnc21, hnb21⟩ := nn NB308_313; obtain ⟨hnc22, hnb22⟩ := nn NB309_313; obtain ⟨hnc23, hnb23⟩ := nn NB310_313; obtain ⟨hcz24_0, hcz24_1, hcz24_2, hcz24_3, hcz24_4, hfz24_0, hfz24_1, hfz24_2, hfz24_3, hfz24_4⟩ := cz5 BK313; obtain ⟨hcz25_0, hcz25_1, hfz25_0, hfz25_1⟩ := cz2 BK310))
     all_goals (refine bodyPost_ret (results_ct rfl _ _ gb310 40 #[.int .i64 0, .int .i64 0] (0, 0) _ rfl (bko gb310 (by rfl)) Tryd.underlying40 rfl (by kernel_rfl)) rfl ?_; exact ⟨by first | rfl | (simp [errW_none, errW_some] <;> rfl) | (simp [*, errW_none, errW_some] <;> rfl), bw w⟩)
    ·
     rw [if_neg c9] at H
     have c9b0 : (((rd_T71 l1_8 a2).f0) == 0) = false := beq_eq_false_iff_ne.mpr c9
     have c9b1 : (((rd_T71 l1_8 a2).f0) != 0) = true := bne_iff_ne.mpr c9
     replace H := Option.bind_eq_some_iff.mp H
     obtain ⟨⟨t314, t315, t316⟩, A260, H⟩ := H
     have A26 := Aside0.mk (A260)
     clear A260
     by_cases c27 : t316 = 0
     ·
      rw [if_pos c27] at H
      have c27b0 : (t316 == 0) = true := beq_iff_eq.mpr c27
      have c27b1 : (t316 != 0) = false := bne_eq_false_iff_eq.mpr c27
      clear c27
      replace H := Option.bind_eq_some_iff.mp H
      obtain ⟨⟨t318, t319⟩, A280, H⟩ := H
      have A28 := Aside0.mk (A280)
      clear A280
      by_cases c29 : (wrap64 ((wrap64 (20 * a1_5)) * ((rd_T71 l1_8 a2).f0))) = 0
      ·
       rw [if_pos c29] at H
       exact absurd H (by simp)
      ·
       rw [if_neg c29] at H
       have c29b0 : ((wrap64 ((wrap64 (20 * a1_5)) * ((rd_T71 l1_8 a2).f0))) == 0) = false := beq_eq_false_iff_ne.mpr c29
       have c29b1 : ((wrap64 ((wrap64 (20 * a1_5)) * ((rd_T71 l1_8 a2).f0))) != 0) = true := bne_iff_ne.mpr c29
       replace H := Option.bind_eq_some_iff.mp H
       obtain ⟨t320, A300, H⟩ := H
       have A30 := Aside0.mk (A300)
       clear A300
       simp only [Option.some.injEq, Prod.mk.injEq] at H
       obtain ⟨rfl, rfl, rfl⟩ := H
       go_enter Tryd.func44, Tryd.ntmps44
       try go_wp2_with (first | ((with_reducible refine gate_dst (N := 4) rfl ?_); refine bxE 4 24 #[.int .i64 a0_0, .int .i64 a0_1, .slice A0_2 l0_2.length c0_2] (by rfl) (by rfl) (by first | (go_simp; done) | (go_simp; rfl)) ?_; intro gb308 hg w31 hbox hb; have BK308 := Bk.mk (hbox); have GE308 := eB w hg; replace HB := bS w hb; clear hb hbox hg) | ((with_reducible refine gate_dst (N := 5) rfl ?_); refine bxE 5 47 #[.int .i64 a1_0, .int .i64 a1_1, .int .i64 a1_2, .int .i64 a1_3, .int .i64 a1_4, .int .i64 a1_5, .int .i64 a1_6, .int .i64 a1_7, .slice A1_8 l1_8.length c1_8] (by rfl) (by rfl) (by first | (go_simp; done) | (go_simp; rfl)) ?_; intro gb309 hg w32 hbox hb; have BK309 := Bk.mk (hbox); have GE309 := eB w hg; have NB308_309 := nB gb308 hg; replace BK308 := kB gb308 hb; replace HB := bS w hb; clear hb hbox hg) | ((with_reducible refine gate_dst (N := 8) rfl ?_); refine bxE 8 40 #[.int .i64 0, .int .i64 0] (by rfl) (by rfl) (by first | (go_simp; done) | (go_simp; rfl)) ?_; intro gb310 hg w33 hbox hb; have BK310 := Bk.mk (hbox); have GE310 := eB w hg; have NB308_310 := nB gb308 hg; have NB309_310 := nB gb309 hg; replace BK308 := kB gb308 hb; replace BK309 := kB gb309 hb; replace HB := bS w hb; clear hb hbox hg; obtain ⟨hnb34, hnc34⟩ := nn NB308_309; obtain ⟨hnb35, hnc35⟩ := nn NB308_310; obtain ⟨hcz36_0, hcz36_1, hcz36_2, hfz36_0, hfz36_1, hfz36_2⟩ := cz3 BK308; obtain ⟨hnb37, hnc37⟩ := nn NB309_310; obtain ⟨hcz38_0, hcz38_1, hcz38_2, hcz38_3, hcz38_4, hcz38_5, hcz38_6, hcz38_7, hcz38_8, hfz38_0, hfz38_1, hfz38_2, hfz38_3, hfz38_4, hfz38_5, hfz38_6, hfz38_7, hfz38_8⟩ := cz9 BK309) | ((with_reducible refine gate_callee (f := 104) rfl ?_); refine goesLM (some 20) rfl rfl Tryd.func104 (by kernel_rfl) rfl #[.agg #[.int .i64 a0_0, .int .i64 a0_1, .slice A0_2 l0_2.length c0_2], .agg #[.int .i64 a1_0, .int .i64 a1_1, .int .i64 a1_2, .int .i64 a1_3, .int .i64 a1_4, .int .i64 a1_5, .int .i64 a1_6, .int .i64 a1_7, .slice A1_8 l1_8.length c1_8], .int .i64 a2, .int .i64 a3] rfl (by rfl) ?_; (with_reducible refine (course_stakeOf.calls k a0_0 a0_1 _ _ l0_2 a1_0 a1_1 a1_2 a1_3 a1_4 a1_5 a1_6 a1_7 _ _ l1_8 a2 a3 t311 _ ?side1 ?side2 ?side3 ?side4 A5.out).mono ?_); (case side1 => exact cP (Kd.C_below HR0_2.out HB.out)); (case side2 => exact HC0_2.out); (case side3 => exact cP (Kd.C_below HR1_8.out HB.out)); (case side4 => exact HC1_8.out); rintro e w39 ⟨rfl, hb⟩; refine ⟨_, rfl, ?_⟩; replace BK308 := kB gb308 hb; replace BK309 := kB gb309 hb; replace BK310 := kB gb310 hb; replace HB := bS w hb; (try clear hb); obtain ⟨hcz40_0, hcz40_1, hcz40_2, hcz40_3, hcz40_4, hcz40_5, hcz40_6, hcz40_7, hcz40_8, hfz40_0, hfz40_1, hfz40_2, hfz40_3, hfz40_4, hfz40_5, hfz40_6, hfz40_7, hfz40_8⟩ := cz9 BK309; have p312 : 0 ≤ (a2 : Int) := of_decide_eq_true (by first | (with_reducible assumption) | assumption); have q312 : a2 < (l1_8.length : Int) := of_decide_eq_true (by first | (with_reducible assumption) | assumption); obtain ⟨ad312, e312, hx312_0, hx312_1, hx312_2, hx312_3, hx312_4⟩ := at_T71 HR1_8.out a2 p312 q312; cases e312; replace hx312_0 := cB HB hx312_0; replace hx312_1 := cB HB hx312_1; replace hx312_2 := cB HB hx312_2; replace hx312_3 := cB HB hx312_3; replace hx312_4 := cB HB hx312_4; replace p312 := eq_true p312; replace q312 := eq_true q312) | ((with_reducible refine gate_dst (N := 11) rfl ?_); refine bxE 11 71 #[.int .i64 0, .int .i64 0, .int .i64 0, .int .i64 0, .int .i64 0] (by rfl) (by rfl) (by first | (go_simp; done) | (go_simp; rfl)) ?_; intro gb313 hg w41 hbox hb; have BK313 := Bk.mk (hbox); have GE313 := eB w hg; have NB308_313 := nB gb308 hg; have NB309_313 := nB gb309 hg; have NB310_313 := nB gb310 hg; replace BK308 := kB gb308 hb; replace BK309 := kB gb309 hb; replace BK310 := kB gb310 hb; replace HB := bS w hb; clear hb hbox hg; obtain ⟨hnc42, hnb42⟩ := nn NB308_313; obtain ⟨hnc43, hnb43⟩ := nn NB309_313; obtain ⟨hnc44, hnb44⟩ := nn NB310_313; obtain ⟨hcz45_0, hcz45_1, hcz45_2, hcz45_3, hcz45_4, hfz45_0, hfz45_1, hfz45_2, hfz45_3, hfz45_4⟩ := cz5 BK313; obtain ⟨hcz46_0, hcz46_1, hcz46_2, hfz46_0, hfz46_1, hfz46_2⟩ := cz3 BK308; obtain ⟨hcz47_0, hcz47_1, hcz47_2, hcz47_3, hcz47_4, hcz47_5, hcz47_6, hcz47_7, hcz47_8, hfz47_0, hfz47_1, hfz47_2, hfz47_3, hfz47_4, hfz47_5, hfz47_6, hfz47_7, hfz47_8⟩ := cz9 BK309) | ((with_reducible refine gate_callee (f := 105) rfl ?_); refine goesLM (some 38) rfl rfl Tryd.func105 (by kernel_rfl) rfl #[.agg #[.int .i64 a0_0, .int .i64 a0_1, .slice A0_2 l0_2.length c0_2], .agg #[.int .i64 a1_0, .int .i64 a1_1, .int .i64 a1_2, .int .i64 a1_3, .int .i64 a1_4, .int .i64 a1_5, .int .i64 a1_6, .int .i64 a1_7, .slice (some ad312) l1_8.length c1_8], .int .i64 a3] rfl (by rfl) ?_; (with_reducible refine (course_turns.calls k a0_0 a0_1 _ _ l0_2 a1_0 a1_1 a1_2 a1_3 a1_4 a1_5 a1_6 a1_7 _ _ l1_8 a3 t314 t315 t316 _ ?side1 ?side2 ?side3 ?side4 A26.out).mono ?_); (case side1 => exact Kd.C_below HR0_2.out (bw w)); (case side2 => exact HC0_2.out); (case side3 => exact Kd.C_below HR1_8.out (bw w)); (case side4 => exact HC1_8.out); rintro e w48 ⟨rfl, hb⟩; refine ⟨_, rfl, ?_⟩; replace BK308 := kB gb308 hb; replace BK309 := kB gb309 hb; replace BK310 := kB gb310 hb; replace BK313 := kBo gb313 (.cells #[.int .i64 ((rd_T71 l1_8 a2).f0), .int .i64 ((rd_T71 l1_8 a2).f1), .int .i64 ((rd_T71 l1_8 a2).f2), .int .i64 ((rd_T71 l1_8 a2).f3), .int .i64 ((rd_T71 l1_8 a2).f4)] 71 (0, 0)) hb (by rfl); replace HB := bS w hb; (try clear hb)) | ((with_reducible refine gate_dst (N := 12) rfl ?_); refine bxE 12 103 #[.int .i64 0, .int .i64 0] (by rfl) (by rfl) (by first | (go_simp; done) | (go_simp; rfl)) ?_; intro gb317 hg w49 hbox hb; have BK317 := Bk.mk (hbox); have GE317 := eB w hg; have NB308_317 := nB gb308 hg; have NB309_317 := nB gb309 hg; have NB310_317 := nB gb310 hg; have NB313_317 := nB gb313 hg; replace BK308 := kB gb308 hb; replace BK309 := kB gb309 hb; replace BK310 := kB gb310 hb; replace BK313 := kB gb313 hb; replace HB := bS w hb; clear hb hbox hg; obtain ⟨hnc50, hnb50⟩ := nn NB308_317; obtain ⟨hnc51, hnb51⟩ := nn NB309_317; obtain ⟨hnc52, hnb52⟩ := nn NB310_317; obtain ⟨hnc53, hnb53⟩ := nn NB313_317; obtain ⟨hcz54_0, hcz54_1, hfz54_0, hfz54_1⟩ := cz2 BK317; obtain ⟨hcz55_0, hcz55_1, hcz55_2, hcz55_3, hcz55_4, hcz55_5, hcz55_6, hcz55_7, hcz55_8, hfz55_0, hfz55_1, hfz55_2, hfz55_3, hfz55_4, hfz55_5, hfz55_6, hfz55_7, hfz55_8⟩ := cz9 BK309; obtain ⟨hcz56_0, hcz56_1, hcz56_2, hcz56_3, hcz56_4, hfz56_0, hfz56_1, hfz56_2, hfz56_3, hfz56_4⟩ := cz5 BK313) | ((with_reducible refine gate_callee (f := 86) rfl ?_); refine goesLM (some 49) rfl rfl Tryd.func86 (by kernel_rfl) rfl #[.agg #[.int .i64 a1_0, .int .i64 a1_1, .int .i64 a1_2, .int .i64 a1_3, .int .i64 a1_4, .int .i64 a1_5, .int .i64 a1_6, .int .i64 a1_7, .slice (some ad312) l1_8.length c1_8], .agg #[.int .i64 ((rd_T71 l1_8 a2).f0), .int .i64 ((rd_T71 l1_8 a2).f1), .int .i64 ((rd_T71 l1_8 a2).f2), .int .i64 ((rd_T71 l1_8 a2).f3), .int .i64 ((rd_T71 l1_8 a2).f4)], .agg #[.int .i64 t314, .int .i64 t315]] rfl (by rfl) ?_; (with_reducible refine (course_snow.calls a1_0 a1_1 a1_2 a1_3 a1_4 a1_5 a1_6 a1_7 _ _ l1_8 ((rd_T71 l1_8 a2).f0) ((rd_T71 l1_8 a2).f1) ((rd_T71 l1_8 a2).f2) ((rd_T71 l1_8 a2).f3) ((rd_T71 l1_8 a2).f4) t314 t315 t318 t319 _ ?side1 ?side2 A28.out).mono ?_); (case side1 => exact Kd.C_below HR1_8.out (bw w)); (case side2 => exact HC1_8.out); rintro e w57 ⟨rfl, hb⟩; refine ⟨_, rfl, ?_⟩; replace BK308 := kB gb308 hb; replace BK309 := kB gb309 hb; replace BK310 := kB gb310 hb; replace BK313 := kB gb313 hb; replace BK317 := kBo gb317 (.cells #[.int .i64 t314, .int .i64 t315] 103 (0, 0)) hb (by rfl); replace HB := bS w hb; (try clear hb)))
       have n0_ := Bk.mk (blk_drew BK308.out)
       have n1_ := Bk.mk (blk_drew BK309.out)
       have n2_ := Bk.mk (blk_drew BK310.out)
       have n3_ := Bk.mk (blk_drew BK313.out)
       have n4_ := Bk.mk (blk_drew BK317.out)
       have n5_ := Bw.mk (below_drew1 HB.out)
       clear BK308 BK309 BK310 BK313 BK317 HB
       have BK308 := n0_
       have BK309 := n1_
       have BK310 := n2_
       have BK313 := n3_
       have BK317 := n4_
       have HB := n5_
       clear n0_ n1_ n2_ n3_ n4_ n5_
       refine start_ (n := 20) (S := fun w' => w'.cell? ⟨gb309, 0, none⟩ = some (.int .i64 a1_0) ∧ w'.cell? ⟨gb309, 1, none⟩ = some (.int .i64 a1_1) ∧ w'.cell? ⟨gb309, 2, none⟩ = some (.int .i64 a1_2) ∧ w'.cell? ⟨gb309, 3, none⟩ = some (.int .i64 a1_3) ∧ w'.cell? ⟨gb309, 4, none⟩ = some (.int .i64 a1_4) ∧ w'.cell? ⟨gb309, 5, none⟩ = some (.int .i64 a1_5) ∧ w'.cell? ⟨gb309, 6, none⟩ = some (.int .i64 a1_6) ∧ w'.cell? ⟨gb309, 7, none⟩ = some (.int .i64 a1_7) ∧ w'.cell? ⟨gb309, 8, none⟩ = some (.slice (some ad312) l1_8.length c1_8) ∧ w'.cell? ⟨gb313, 0, none⟩ = some (.int .i64 ((rd_T71 l1_8 a2).f0)) ∧ w'.cell? ⟨gb313, 1, none⟩ = some (.int .i64 ((rd_T71 l1_8 a2).f1)) ∧ w'.cell? ⟨gb313, 2, none⟩ = some (.int .i64 ((rd_T71 l1_8 a2).f2)) ∧ w'.cell? ⟨gb313, 3, none⟩ = some (.int .i64 ((rd_T71 l1_8 a2).f3)) ∧ w'.cell? ⟨gb313, 4, none⟩ = some (.int .i64 ((rd_T71 l1_8 a2).f4))) (ds := []) #[false, false, false, false, false, false, false, false, false, false, false, false, false, false, false, false, false, false, false, false] (by kernel_rfl) rfl rfl ⟨bc BK309 0, bc BK309 1, bc BK309 2, bc BK309 3, bc BK309 4, bc BK309 5, bc BK309 6, bc BK309 7, bc BK309 8, bc BK313 0, bc BK313 1, bc BK313 2, bc BK313 3, bc BK313 4⟩ (fun hHeld => ?_); refine with_tabW course_Density.tab11 course_Density.bits11 (fun HT_ HW_ => ?_)
       generalize w57.drew = w58 at BK308 BK309 BK310 BK313 BK317 HB hHeld ⊢
       refine pS 0 (some 52) rfl rfl (any_of HT_.out (by kernel_rfl)) (fun _ _ _ h => h) (by rfl) (fun w' => by go_simp; with_reducible rfl) (by simp only [Act.put, List.setIfInBounds_toArray, List.set_cons_zero, List.set_cons_succ, i64_w]; rfl) ?_
       refine pS 1 (some 53) rfl rfl (any_of HT_.out (by kernel_rfl)) (fun _ _ _ h => h) (by rfl) (fun w' => by go_simp; with_reducible rfl) (by simp only [Act.put, List.setIfInBounds_toArray, List.set_cons_zero, List.set_cons_succ, i64_w]; rfl) ?_
       refine pS 2 (some 54) rfl rfl (any_of HT_.out (by kernel_rfl)) (fun _ _ _ h => h) (by rfl) (fun w' => by go_simp; with_reducible rfl) (by simp only [Act.put, List.setIfInBounds_toArray, List.set_cons_zero, List.set_cons_succ, i64_w]; rfl) ?_
       refine pS 5 (some 57) rfl rfl (any_of HT_.out (by kernel_rfl)) (fun _ _ _ h => h) (by rfl) (fun w' => by go_simp; with_reducible rfl) (by simp only [Act.put, List.setIfInBounds_toArray, List.set_cons_zero, List.set_cons_succ, i64_w]; rfl) ?_
       refine pS 9 (some 61) rfl rfl (any_of HT_.out (by kernel_rfl)) (fun _ _ _ h => h) (by rfl) (fun w' => by go_simp; with_reducible rfl) (by simp only [Act.put, List.setIfInBounds_toArray, List.set_cons_zero, List.set_cons_succ, i64_w]; rfl) ?_
       refine pS 10 (some 62) rfl rfl (any_of HT_.out (by kernel_rfl)) (fun _ _ _ h => h) (by rfl) (fun w' => by go_simp; with_reducible rfl) (by simp only [Act.put, List.setIfInBounds_toArray, List.set_cons_zero, List.set_cons_succ, i64_w]; rfl) ?_
       refine pS 11 (some 63) rfl rfl (any_of HT_.out (by kernel_rfl)) (fun _ _ _ h => h) (by rfl) (fun w' => by go_simp; with_reducible rfl) (by simp only [Act.put, List.setIfInBounds_toArray, List.set_cons_zero, List.set_cons_succ, i64_w]; rfl) ?_
       refine pS 13 (some 65) rfl rfl (any_of HT_.out (by kernel_rfl)) (fun _ _ _ h => h) (by rfl) (fun w' => by go_simp; with_reducible rfl) (by simp only [Act.put, List.setIfInBounds_toArray, List.set_cons_zero, List.set_cons_succ, i64_w]; rfl) ?_
       refine tS 3 (some 55) rfl rfl (take_ofW HT_.out HW_.out (by kernel_rfl)) (fun _ _ _ h => h) (by rfl) (by rintro w' ⟨s0, s1, s2, s3, s4, s5, s6, s7, s8, s9, s10, s11, s12, s13⟩; go_simp; with_reducible rfl) hHeld (by simp only [Act.put, List.setIfInBounds_toArray, List.set_cons_zero, List.set_cons_succ, i64_w]; rfl) ?_
       refine pS 4 (some 56) rfl rfl (any_of HT_.out (by kernel_rfl)) (fun _ _ _ h => h) (by rfl) (fun w' => by go_simp; with_reducible rfl) (by simp only [Act.put, List.setIfInBounds_toArray, List.set_cons_zero, List.set_cons_succ, i64_w]; rfl) ?_
       refine tS 6 (some 58) rfl rfl (take_ofW HT_.out HW_.out (by kernel_rfl)) (fun _ _ _ h => h) (by rfl) (by rintro w' ⟨s0, s1, s2, s3, s4, s5, s6, s7, s8, s9, s10, s11, s12, s13⟩; go_simp; with_reducible rfl) hHeld (by simp only [Act.put, List.setIfInBounds_toArray, List.set_cons_zero, List.set_cons_succ, i64_w]; rfl) ?_
       refine pS 7 (some 59) rfl rfl (any_of HT_.out (by kernel_rfl)) (fun _ _ _ h => h) (by rfl) (fun w' => by go_simp; with_reducible rfl) (by simp only [Act.put, List.setIfInBounds_toArray, List.set_cons_zero, List.set_cons_succ, i64_w]; rfl) ?_
       refine pS 8 (some 60) rfl rfl (any_of HT_.out (by kernel_rfl)) (fun _ _ _ h => h) (by rfl) (fun w' => by go_simp; with_reducible rfl) (by simp only [Act.put, List.setIfInBounds_toArray, List.set_cons_zero, List.set_cons_succ, i64_w]; rfl) ?_
       refine tS 12 (some 64) rfl rfl (take_ofW HT_.out HW_.out (by kernel_rfl)) (fun _ _ _ h => h) (by rfl) (by rintro w' ⟨s0, s1, s2, s3, s4, s5, s6, s7, s8, s9, s10, s11, s12, s13⟩; go_simp; with_reducible rfl) hHeld (by simp only [Act.put, List.setIfInBounds_toArray, List.set_cons_zero, List.set_cons_succ, i64_w]; rfl) ?_
       refine tS 14 (some 66) rfl rfl (take_ofW HT_.out HW_.out (by kernel_rfl)) (fun _ _ _ h => h) (by rfl) (by rintro w' ⟨s0, s1, s2, s3, s4, s5, s6, s7, s8, s9, s10, s11, s12, s13⟩; go_simp; with_reducible rfl) hHeld (by simp only [Act.put, List.setIfInBounds_toArray, List.set_cons_zero, List.set_cons_succ, i64_w]; rfl) ?_
       refine pS 15 (some 67) rfl rfl (any_of HT_.out (by kernel_rfl)) (fun _ _ _ h => h) (by rfl) (fun w' => by go_simp; with_reducible rfl) (by simp only [Act.put, List.setIfInBounds_toArray, List.set_cons_zero, List.set_cons_succ, i64_w]; rfl) ?_
       refine one_ (i := 16) (N := some 68) #[true, true, true, true, true, true, true, true, true, true, true, true, true, true, true, true, true, false, false, false] rfl rfl (one_of HT_.out (by kernel_rfl)) (by decide) (fun K hK => ?_)
       refine goesM Tryd.func87 (by kernel_rfl) rfl #[.int .i64 (wrap64 (1000 * t319)), .int .i64 (wrap64 (a1_5 * ((rd_T71 l1_8 a2).f0)))] (by rfl) rfl rfl (by rfl) ?_
       with_reducible refine (course_up.calls (wrap64 (1000 * t319)) (wrap64 (a1_5 * ((rd_T71 l1_8 a2).f0))) t320 _ A30.out).mono ?_
       rintro e w' ⟨rfl, ⟨nd, rfl⟩⟩
       refine ⟨_, rfl, ?_⟩
       refine hK.out _ _ ⟨bc BK309 0, bc BK309 1, bc BK309 2, bc BK309 3, bc BK309 4, bc BK309 5, bc BK309 6, bc BK309 7, bc BK309 8, bc BK313 0, bc BK313 1, bc BK313 2, bc BK313 3, bc BK313 4⟩ (fun hHeld => ?_)
       clear hK K
       refine norm_ (a' := ?_) ?_ ?_
       rotate_left
       ·
        show Act.put _ (some 68) _ = _
        simp only [Act.put, List.setIfInBounds_toArray, List.set_cons_zero, List.set_cons_succ, i64_w]
        rfl
       refine pS 17 (some 69) rfl rfl (any_of HT_.out (by kernel_rfl)) (fun _ _ _ h => h) (by rfl) (fun w' => by go_simp; with_reducible rfl) (by simp only [Act.put, List.setIfInBounds_toArray, List.set_cons_zero, List.set_cons_succ, i64_w]; rfl) ?_
       refine one_ (i := 18) (N := none) #[true, true, true, true, true, true, true, true, true, true, true, true, true, true, true, true, true, true, true, false] rfl rfl (one_of HT_.out (by kernel_rfl)) (by decide) (fun K hK => ?_)
       have hs59 : w58.cell? ⟨gb310, 0, none⟩ = some (.int .i64 0) := bc BK310 0
       have hfs59 := blk_frozen BK310.out 0
       have hns59_0 := NB308_310.out
       have hns59_1 := NB309_310.out
       have hns59_3 := NB310_313.out.symm
       have hns59_4 := NB310_317.out.symm
       have hms59_0 := NB308_310.out.symm
       have hms59_1 := NB309_310.out.symm
       have hms59_3 := NB310_313.out
       have hms59_4 := NB310_317.out
       have hs60 : w58.cell? ⟨gb310, 1, none⟩ = some (.int .i64 0) := bc BK310 1
       have hfs60 := blk_frozen BK310.out 1
       have hns60_0 := NB308_310.out
       have hns60_1 := NB309_310.out
       have hns60_3 := NB310_313.out.symm
       have hns60_4 := NB310_317.out.symm
       have hms60_0 := NB308_310.out.symm
       have hms60_1 := NB309_310.out.symm
       have hms60_3 := NB310_313.out
       have hms60_4 := NB310_317.out
       refine skip_ (w1 := ?_) (by rfl) rfl ?_ ?_
       rotate_left
       ·
        go_simp
        rfl
       refine hK.out _ _ ⟨((cell_far (p := ⟨gb310, _, none⟩) NB309_310.out _).trans (((cell_far (p := ⟨gb310, _, none⟩) NB309_310.out _).trans (hHeld.1)))), ((cell_far (p := ⟨gb310, _, none⟩) NB309_310.out _).trans (((cell_far (p := ⟨gb310, _, none⟩) NB309_310.out _).trans (hHeld.2.1)))), ((cell_far (p := ⟨gb310, _, none⟩) NB309_310.out _).trans (((cell_far (p := ⟨gb310, _, none⟩) NB309_310.out _).trans (hHeld.2.2.1)))), ((cell_far (p := ⟨gb310, _, none⟩) NB309_310.out _).trans (((cell_far (p := ⟨gb310, _, none⟩) NB309_310.out _).trans (hHeld.2.2.2.1)))), ((cell_far (p := ⟨gb310, _, none⟩) NB309_310.out _).trans (((cell_far (p := ⟨gb310, _, none⟩) NB309_310.out _).trans (hHeld.2.2.2.2.1)))), ((cell_far (p := ⟨gb310, _, none⟩) NB309_310.out _).trans (((cell_far (p := ⟨gb310, _, none⟩) NB309_310.out _).trans (hHeld.2.2.2.2.2.1)))), ((cell_far (p := ⟨gb310, _, none⟩) NB309_310.out _).trans (((cell_far (p := ⟨gb310, _, none⟩) NB309_310.out _).trans (hHeld.2.2.2.2.2.2.1)))), ((cell_far (p := ⟨gb310, _, none⟩) NB309_310.out _).trans (((cell_far (p := ⟨gb310, _, none⟩) NB309_310.out _).trans (hHeld.2.2.2.2.2.2.2.1)))), ((cell_far (p := ⟨gb310, _, none⟩) NB309_310.out _).trans (((cell_far (p := ⟨gb310, _, none⟩) NB309_310.out _).trans (hHeld.2.2.2.2.2.2.2.2.1)))), ((cell_far (p := ⟨gb310, _, none⟩) NB310_313.out.symm _).trans (((cell_far (p := ⟨gb310, _, none⟩) NB310_313.out.symm _).trans (hHeld.2.2.2.2.2.2.2.2.2.1)))), ((cell_far (p := ⟨gb310, _, none⟩) NB310_313.out.symm _).trans (((cell_far (p := ⟨gb310, _, none⟩) NB310_313.out.symm _).trans (hHeld.2.2.2.2.2.2.2.2.2.2.1)))), ((cell_far (p := ⟨gb310, _, none⟩) NB310_313.out.symm _).trans (((cell_far (p := ⟨gb310, _, none⟩) NB310_313.out.symm _).trans (hHeld.2.2.2.2.2.2.2.2.2.2.2.1)))), ((cell_far (p := ⟨gb310, _, none⟩) NB310_313.out.symm _).trans (((cell_far (p := ⟨gb310, _, none⟩) NB310_313.out.symm _).trans (hHeld.2.2.2.2.2.2.2.2.2.2.2.2.1)))), ((cell_far (p := ⟨gb310, _, none⟩) NB310_313.out.symm _).trans (((cell_far (p := ⟨gb310, _, none⟩) NB310_313.out.symm _).trans (hHeld.2.2.2.2.2.2.2.2.2.2.2.2.2))))⟩ (fun hHeld => ?_)
       clear hK K
       refine pS 19 (some 9) rfl rfl (any_of HT_.out (by kernel_rfl)) (fun _ _ _ h => h) (by rfl) (fun w' => by go_simp; with_reducible rfl) (by simp only [Act.put, List.setIfInBounds_toArray, List.set_cons_zero, List.set_cons_succ, i64_w]; rfl) ?_
       refine done_ (done_of HT_.out (by kernel_rfl)) ?_
       try go_wp2
       all_goals (refine bodyPost_ret (results_ct rfl _ _ gb310 40 #[.int .i64 (wrap64 (Int.tdiv (wrap64 (1000 * t318)) (wrap64 ((wrap64 (20 * a1_5)) * ((rd_T71 l1_8 a2).f0))))), .int .i64 t320] (0, 0) _ rfl (bko gb310 (by rfl)) Tryd.underlying40 rfl (by kernel_rfl)) rfl ?_; exact ⟨by first | rfl | (simp [errW_none, errW_some] <;> rfl) | (simp [*, errW_none, errW_some] <;> rfl), bw w⟩)
     ·
      rw [if_neg c27] at H
      have c27b0 : (t316 == 0) = false := beq_eq_false_iff_ne.mpr c27
      have c27b1 : (t316 != 0) = true := bne_iff_ne.mpr c27
      simp only [Option.some.injEq, Prod.mk.injEq] at H
      obtain ⟨rfl, rfl, rfl⟩ := H
      go_enter Tryd.func44, Tryd.ntmps44
      go_wp2_with (first | ((with_reducible refine gate_dst (N := 4) rfl ?_); refine bxE 4 24 #[.int .i64 a0_0, .int .i64 a0_1, .slice A0_2 l0_2.length c0_2] (by rfl) (by rfl) (by first | (go_simp; done) | (go_simp; rfl)) ?_; intro gb308 hg w61 hbox hb; have BK308 := Bk.mk (hbox); have GE308 := eB w hg; replace HB := bS w hb; clear hb hbox hg) | ((with_reducible refine gate_dst (N := 5) rfl ?_); refine bxE 5 47 #[.int .i64 a1_0, .int .i64 a1_1, .int .i64 a1_2, .int .i64 a1_3, .int .i64 a1_4, .int .i64 a1_5, .int .i64 a1_6, .int .i64 a1_7, .slice A1_8 l1_8.length c1_8] (by rfl) (by rfl) (by first | (go_simp; done) | (go_simp; rfl)) ?_; intro gb309 hg w62 hbox hb; have BK309 := Bk.mk (hbox); have GE309 := eB w hg; have NB308_309 := nB gb308 hg; replace BK308 := kB gb308 hb; replace HB := bS w hb; clear hb hbox hg) | ((with_reducible refine gate_dst (N := 8) rfl ?_); refine bxE 8 40 #[.int .i64 0, .int .i64 0] (by rfl) (by rfl) (by first | (go_simp; done) | (go_simp; rfl)) ?_; intro gb310 hg w63 hbox hb; have BK310 := Bk.mk (hbox); have GE310 := eB w hg; have NB308_310 := nB gb308 hg; have NB309_310 := nB gb309 hg; replace BK308 := kB gb308 hb; replace BK309 := kB gb309 hb; replace HB := bS w hb; clear hb hbox hg; obtain ⟨hnb64, hnc64⟩ := nn NB308_309; obtain ⟨hnb65, hnc65⟩ := nn NB308_310; obtain ⟨hcz66_0, hcz66_1, hcz66_2, hfz66_0, hfz66_1, hfz66_2⟩ := cz3 BK308; obtain ⟨hnb67, hnc67⟩ := nn NB309_310; obtain ⟨hcz68_0, hcz68_1, hcz68_2, hcz68_3, hcz68_4, hcz68_5, hcz68_6, hcz68_7, hcz68_8, hfz68_0, hfz68_1, hfz68_2, hfz68_3, hfz68_4, hfz68_5, hfz68_6, hfz68_7, hfz68_8⟩ := cz9 BK309) | ((with_reducible refine gate_callee (f := 104) rfl ?_); refine goesLM (some 20) rfl rfl Tryd.func104 (by kernel_rfl) rfl #[.agg #[.int .i64 a0_0, .int .i64 a0_1, .slice A0_2 l0_2.length c0_2], .agg #[.int .i64 a1_0, .int .i64 a1_1, .int .i64 a1_2, .int .i64 a1_3, .int .i64 a1_4, .int .i64 a1_5, .int .i64 a1_6, .int .i64 a1_7, .slice A1_8 l1_8.length c1_8], .int .i64 a2, .int .i64 a3] rfl (by rfl) ?_; (with_reducible refine (course_stakeOf.calls k a0_0 a0_1 _ _ l0_2 a1_0 a1_1 a1_2 a1_3 a1_4 a1_5 a1_6 a1_7 _ _ l1_8 a2 a3 t311 _ ?side1 ?side2 ?side3 ?side4 A5.out).mono ?_); (case side1 => exact cP (Kd.C_below HR0_2.out HB.out)); (case side2 => exact HC0_2.out); (case side3 => exact cP (Kd.C_below HR1_8.out HB.out)); (case side4 => exact HC1_8.out); rintro e w69 ⟨rfl, hb⟩; refine ⟨_, rfl, ?_⟩; replace BK308 := kB gb308 hb; replace BK309 := kB gb309 hb; replace BK310 := kB gb310 hb; replace HB := bS w hb; (try clear hb); obtain ⟨hcz70_0, hcz70_1, hcz70_2, hcz70_3, hcz70_4, hcz70_5, hcz70_6, hcz70_7, hcz70_8, hfz70_0, hfz70_1, hfz70_2, hfz70_3, hfz70_4, hfz70_5, hfz70_6, hfz70_7, hfz70_8⟩ := cz9 BK309; have p312 : 0 ≤ (a2 : Int) := of_decide_eq_true (by first | (with_reducible assumption) | assumption); have q312 : a2 < (l1_8.length : Int) := of_decide_eq_true (by first | (with_reducible assumption) | assumption); obtain ⟨ad312, e312, hx312_0, hx312_1, hx312_2, hx312_3, hx312_4⟩ := at_T71 HR1_8.out a2 p312 q312; cases e312; replace hx312_0 := cB HB hx312_0; replace hx312_1 := cB HB hx312_1; replace hx312_2 := cB HB hx312_2; replace hx312_3 := cB HB hx312_3; replace hx312_4 := cB HB hx312_4; replace p312 := eq_true p312; replace q312 := eq_true q312) | ((with_reducible refine gate_dst (N := 11) rfl ?_); refine bxE 11 71 #[.int .i64 0, .int .i64 0, .int .i64 0, .int .i64 0, .int .i64 0] (by rfl) (by rfl) (by first | (go_simp; done) | (go_simp; rfl)) ?_; intro gb313 hg w71 hbox hb; have BK313 := Bk.mk (hbox); have GE313 := eB w hg; have NB308_313 := nB gb308 hg; have NB309_313 := nB gb309 hg; have NB310_313 := nB gb310 hg; replace BK308 := kB gb308 hb; replace BK309 := kB gb309 hb; replace BK310 := kB gb310 hb; replace HB := bS w hb; clear hb hbox hg; obtain ⟨hnc72, hnb72⟩ := nn NB308_313; obtain ⟨hnc73, hnb73⟩ := nn NB309_313; obtain ⟨hnc74, hnb74⟩ := nn NB310_313; obtain ⟨hcz75_0, hcz75_1, hcz75_2, hcz75_3, hcz75_4, hfz75_0, hfz75_1, hfz75_2, hfz75_3, hfz75_4⟩ := cz5 BK313; obtain ⟨hcz76_0, hcz76_1, hcz76_2, hfz76_0, hfz76_1, hfz76_2⟩ := cz3 BK308; obtain ⟨hcz77_0, hcz77_1, hcz77_2, hcz77_3, hcz77_4, hcz77_5, hcz77_6, hcz77_7, hcz77_8, hfz77_0, hfz77_1, hfz77_2, hfz77_3, hfz77_4, hfz77_5, hfz77_6, hfz77_7, hfz77_8⟩ := cz9 BK309) | ((with_reducible refine gate_callee (f := 105) rfl ?_); refine goesLM (some 38) rfl rfl Tryd.func105 (by kernel_rfl) rfl #[.agg #[.int .i64 a0_0, .int .i64 a0_1, .slice A0_2 l0_2.length c0_2], .agg #[.int .i64 a1_0, .int .i64 a1_1, .int .i64 a1_2, .int .i64 a1_3, .int .i64 a1_4, .int .i64 a1_5, .int .i64 a1_6, .int .i64 a1_7, .slice (some ad312) l1_8.length c1_8], .int .i64 a3] rfl (by rfl) ?_; (with_reducible refine (course_turns.calls k a0_0 a0_1 _ _ l0_2 a1_0 a1_1 a1_2 a1_3 a1_4 a1_5 a1_6 a1_7 _ _ l1_8 a3 t314 t315 t316 _ ?side1 ?side2 ?side3 ?side4 A26.out).mono ?_); (case side1 => exact Kd.C_below HR0_2.out (bw w)); (case side2 => exact HC0_2.out); (case side3 => exact Kd.C_below HR1_8.out (bw w)); (case side4 => exact HC1_8.out); rintro e w78 ⟨rfl, hb⟩; refine ⟨_, rfl, ?_⟩; replace BK308 := kB gb308 hb; replace BK309 := kB gb309 hb; replace BK310 := kB gb310 hb; replace BK313 := kBo gb313 (.cells #[.int .i64 ((rd_T71 l1_8 a2).f0), .int .i64 ((rd_T71 l1_8 a2).f1), .int .i64 ((rd_T71 l1_8 a2).f2), .int .i64 ((rd_T71 l1_8 a2).f3), .int .i64 ((rd_T71 l1_8 a2).f4)] 71 (0, 0)) hb (by rfl); replace HB := bS w hb; (try clear hb)) | ((with_reducible refine gate_dst (N := 12) rfl ?_); refine bxE 12 103 #[.int .i64 0, .int .i64 0] (by rfl) (by rfl) (by first | (go_simp; done) | (go_simp; rfl)) ?_; intro gb317 hg w79 hbox hb; have BK317 := Bk.mk (hbox); have GE317 := eB w hg; have NB308_317 := nB gb308 hg; have NB309_317 := nB gb309 hg; have NB310_317 := nB gb310 hg; have NB313_317 := nB gb313 hg; replace BK308 := kB gb308 hb; replace BK309 := kB gb309 hb; replace BK310 := kB gb310 hb; replace BK313 := kB gb313 hb; replace HB := bS w hb; clear hb hbox hg; obtain ⟨hnc80, hnb80⟩ := nn NB308_317; obtain ⟨hnc81, hnb81⟩ := nn NB309_317; obtain ⟨hnc82, hnb82⟩ := nn NB310_317; obtain ⟨hnc83, hnb83⟩ := nn NB313_317; obtain ⟨hcz84_0, hcz84_1, hfz84_0, hfz84_1⟩ := cz2 BK317; obtain ⟨hcz85_0, hcz85_1, hfz85_0, hfz85_1⟩ := cz2 BK310))
      all_goals (refine bodyPost_ret (results_ct rfl _ _ gb310 40 #[.int .i64 0, .int .i64 0] (0, 0) _ rfl (bko gb310 (by rfl)) Tryd.underlying40 rfl (by kernel_rfl)) rfl ?_; exact ⟨by first | rfl | (simp [errW_none, errW_some] <;> rfl) | (simp [*, errW_none, errW_some] <;> rfl), bw w⟩)
   ·
    rw [if_neg c8] at H
    exact absurd H (by simp)
  ·
   rw [if_neg c7] at H
   exact absurd H (by simp)
 ·
  rw [if_neg c6] at H
  have c6b0 : (t311 == 0) = false := beq_eq_false_iff_ne.mpr c6
  have c6b1 : (t311 != 0) = true := bne_iff_ne.mpr c6
  simp only [Option.some.injEq, Prod.mk.injEq] at H
  obtain ⟨rfl, rfl, rfl⟩ := H
  go_enter Tryd.func44, Tryd.ntmps44
  go_wp2_with (first | ((with_reducible refine gate_dst (N := 4) rfl ?_); refine bxE 4 24 #[.int .i64 a0_0, .int .i64 a0_1, .slice A0_2 l0_2.length c0_2] (by rfl) (by rfl) (by first | (go_simp; done) | (go_simp; rfl)) ?_; intro gb308 hg w86 hbox hb; have BK308 := Bk.mk (hbox); have GE308 := eB w hg; replace HB := bS w hb; clear hb hbox hg) | ((with_reducible refine gate_dst (N := 5) rfl ?_); refine bxE 5 47 #[.int .i64 a1_0, .int .i64 a1_1, .int .i64 a1_2, .int .i64 a1_3, .int .i64 a1_4, .int .i64 a1_5, .int .i64 a1_6, .int .i64 a1_7, .slice A1_8 l1_8.length c1_8] (by rfl) (by rfl) (by first | (go_simp; done) | (go_simp; rfl)) ?_; intro gb309 hg w87 hbox hb; have BK309 := Bk.mk (hbox); have GE309 := eB w hg; have NB308_309 := nB gb308 hg; replace BK308 := kB gb308 hb; replace HB := bS w hb; clear hb hbox hg) | ((with_reducible refine gate_dst (N := 8) rfl ?_); refine bxE 8 40 #[.int .i64 0, .int .i64 0] (by rfl) (by rfl) (by first | (go_simp; done) | (go_simp; rfl)) ?_; intro gb310 hg w88 hbox hb; have BK310 := Bk.mk (hbox); have GE310 := eB w hg; have NB308_310 := nB gb308 hg; have NB309_310 := nB gb309 hg; replace BK308 := kB gb308 hb; replace BK309 := kB gb309 hb; replace HB := bS w hb; clear hb hbox hg; obtain ⟨hnb89, hnc89⟩ := nn NB308_309; obtain ⟨hnb90, hnc90⟩ := nn NB308_310; obtain ⟨hcz91_0, hcz91_1, hcz91_2, hfz91_0, hfz91_1, hfz91_2⟩ := cz3 BK308; obtain ⟨hnb92, hnc92⟩ := nn NB309_310; obtain ⟨hcz93_0, hcz93_1, hcz93_2, hcz93_3, hcz93_4, hcz93_5, hcz93_6, hcz93_7, hcz93_8, hfz93_0, hfz93_1, hfz93_2, hfz93_3, hfz93_4, hfz93_5, hfz93_6, hfz93_7, hfz93_8⟩ := cz9 BK309) | ((with_reducible refine gate_callee (f := 104) rfl ?_); refine goesLM (some 20) rfl rfl Tryd.func104 (by kernel_rfl) rfl #[.agg #[.int .i64 a0_0, .int .i64 a0_1, .slice A0_2 l0_2.length c0_2], .agg #[.int .i64 a1_0, .int .i64 a1_1, .int .i64 a1_2, .int .i64 a1_3, .int .i64 a1_4, .int .i64 a1_5, .int .i64 a1_6, .int .i64 a1_7, .slice A1_8 l1_8.length c1_8], .int .i64 a2, .int .i64 a3] rfl (by rfl) ?_; (with_reducible refine (course_stakeOf.calls k a0_0 a0_1 _ _ l0_2 a1_0 a1_1 a1_2 a1_3 a1_4 a1_5 a1_6 a1_7 _ _ l1_8 a2 a3 t311 _ ?side1 ?side2 ?side3 ?side4 A5.out).mono ?_); (case side1 => exact cP (Kd.C_below HR0_2.out HB.out)); (case side2 => exact HC0_2.out); (case side3 => exact cP (Kd.C_below HR1_8.out HB.out)); (case side4 => exact HC1_8.out); rintro e w94 ⟨rfl, hb⟩; refine ⟨_, rfl, ?_⟩; replace BK308 := kB gb308 hb; replace BK309 := kB gb309 hb; replace BK310 := kB gb310 hb; replace HB := bS w hb; (try clear hb); obtain ⟨hcz95_0, hcz95_1, hfz95_0, hfz95_1⟩ := cz2 BK310))
  all_goals (refine bodyPost_ret (results_ct rfl _ _ gb310 40 #[.int .i64 0, .int .i64 0] (0, 0) _ rfl (bko gb310 (by rfl)) Tryd.underlying40 rfl (by kernel_rfl)) rfl ?_; exact ⟨by first | rfl | (simp [errW_none, errW_some] <;> rfl) | (simp [*, errW_none, errW_some] <;> rfl), bw w⟩)
def snowlinelaw01_example.f  : Option (Int × Int × (List (S26))) := some (0, 0, (([(⟨10, 10, 0, 0⟩ : S26)] : List (S26))))
set_option maxHeartbeats 8000000 in
set_option maxRecDepth 100000 in
theorem snowlinelaw01_example.calls  (r1 : Int) (r2 : Int) (r3 : List (S26)) (w : World) (h : snowlinelaw01_example.f  = some (r1, r2, r3)) :
  Calls Tryd.prog 66 #[] w fun e w' => ∃ v2_ : Value, e = .returned (.agg #[.int .i64 r1, .int .i64 r2, v2_]) ∧ Kd.R k26 26 w' w.heap.size (fun _ => True) v2_ r3 ∧ Below w.heap.size w w' := by
 have hu24 := Tryd.underlying24
 have hu26 := Tryd.underlying26
 have HB := Bw.mk (Below.refl w.heap.size w)
 have H : (some (0, 0, (([(⟨10, 10, 0, 0⟩ : S26)] : List (S26))))) = some (r1, r2, r3) := h
 clear h
 obtain ⟨y322, hy322⟩ : ∃ y_ : List (S26), y_ = (([(⟨10, 10, 0, 0⟩ : S26)] : List (S26))) := ⟨_, rfl⟩
 replace H : (some (0, 0, y322)) = some (r1, r2, r3) := by first | (rw [hy322]; with_reducible exact H) | (have H2_ := (Option.bind_some _ _).symm.trans H; rw [hy322]; with_reducible exact H2_) | (have H2_ := (Option.bind_some _ _).symm.trans H; with_reducible exact H2_) | with_reducible exact H | (rw [hy322]; exact H) | exact H
 have Ny322 := Aside0.mk (hy322)
 clear hy322
 simp only [Option.some.injEq, Prod.mk.injEq] at H
 obtain ⟨rfl, rfl, rfl⟩ := H
 go_enter Tryd.func66, Tryd.ntmps66
 go_wp2_with (first | ((with_reducible refine gate_dst (N := 0) rfl ?_); refine bxE 0 24 #[.int .i64 0, .int .i64 0, .slice none 0 0] (by rfl) (by rfl) (by first | (go_simp; done) | (go_simp; rfl)) ?_; intro gb321 hg w1 hbox hb; have BK321 := Bk.mk (hbox); have GE321 := eB w hg; replace HB := bS w hb; clear hb hbox hg) | ((with_reducible refine gate_dst (N := 2) rfl ?_); refine Kd.R_lit k26 _ 26 ?hg (N := 2) ?hd (xs := ([(⟨10, 10, 0, 0⟩ : S26)] : List (S26))) (inner := [.int .i64 10, .int .i64 10, .int .i64 0, .int .i64 0]) (ok := fun _ => True) (okp := fun _ => True) ?hr ?hp (fun _ hk => hk) trivial (Below.refl _ _) (Nat.le_refl _) (by simp) ?_; (case hd => rfl); (case hg => rfl); (case hr => first | (go_simp; done) | (go_simp; rfl)); (case hp => exact (Reps.c4 (show Kd.M k26 _ _ _ (⟨10, 10, 0, 0⟩ : S26) [.int .i64 10, .int .i64 10, .int .i64 0, .int .i64 0] from (k26_mkM _ _ _ (⟨10, 10, 0, 0⟩ : S26) )) (Reps.none _ _))); intro v323 w2 ho3 hb hg_ hnew_; clear hg_ hnew_; (first | rw [← Ny322.out] at ho3 | (simp only [Int.reduceToNat] at ho3; rw [← Ny322.out] at ho3)); have n0_ := Aside0.mk (Kd.R_lower ho3 (bz w)); replace BK321 := kB gb321 hb; replace HB := bS w hb; have HO324 := n0_; clear n0_ hb ho3; obtain ⟨Ao4, co4, eo4⟩ := Kd.R_slice HO324.out; subst eo4; obtain ⟨hcz5_0, hcz5_1, hcz5_2, hfz5_0, hfz5_1, hfz5_2⟩ := cz3 BK321))
 all_goals (refine bodyPost_ret (results_cell_row rfl _ _ gb321 24 #[.int .i64 0, .int .i64 0, .slice Ao4 y322.length co4] (0, 0) _ rfl (bko gb321 (by rfl)) Tryd.underlying24 rfl (by kernel_rfl)) rfl ?_; exact ⟨_, by first | rfl | (simp [errW_none, errW_some] <;> rfl) | (simp [*, errW_none, errW_some] <;> rfl), by (with_reducible repeat (first | apply Kd.R_alloc | apply Kd.R_drewN | apply Kd.R_drew)); exact Kd.R_mono (Kd.R_far (p := ⟨gb321, 2, none⟩) (Kd.R_far (p := ⟨gb321, 1, none⟩) (Kd.R_far (p := ⟨gb321, 0, none⟩) (Kd.R_types HO324.out BK321.out (by decide)) (fun _ hk => hk.2) (.int .i64 0)) (fun _ hk => hk.2) (.int .i64 0)) (fun _ hk => hk.2) (.slice Ao4 y322.length co4)) (fun _ hk => trivial), bw w⟩)
def snowlinelaw01_sheet.f  : Option (Int × Int × Int × Int × Int × Int × Int × Int × (List (S71))) := some (1, 2, 10, 11, 0, 10, 100, 10, (([(⟨300, 200, 1155, 40, 5⟩ : S71)] : List (S71))))
set_option maxHeartbeats 8000000 in
set_option maxRecDepth 100000 in
theorem snowlinelaw01_sheet.calls  (r1 : Int) (r2 : Int) (r3 : Int) (r4 : Int) (r5 : Int) (r6 : Int) (r7 : Int) (r8 : Int) (r9 : List (S71)) (w : World) (h : snowlinelaw01_sheet.f  = some (r1, r2, r3, r4, r5, r6, r7, r8, r9)) :
  Calls Tryd.prog 67 #[] w fun e w' => ∃ v8_ : Value, e = .returned (.agg #[.int .i64 r1, .int .i64 r2, .int .i64 r3, .int .i64 r4, .int .i64 r5, .int .i64 r6, .int .i64 r7, .int .i64 r8, v8_]) ∧ Kd.R k71 71 w' w.heap.size (fun _ => True) v8_ r9 ∧ Below w.heap.size w w' := by
 have hu47 := Tryd.underlying47
 have hu71 := Tryd.underlying71
 have HB := Bw.mk (Below.refl w.heap.size w)
 have H : (some (1, 2, 10, 11, 0, 10, 100, 10, (([(⟨300, 200, 1155, 40, 5⟩ : S71)] : List (S71))))) = some (r1, r2, r3, r4, r5, r6, r7, r8, r9) := h
 clear h
 obtain ⟨y326, hy326⟩ : ∃ y_ : List (S71), y_ = (([(⟨300, 200, 1155, 40, 5⟩ : S71)] : List (S71))) := ⟨_, rfl⟩
 replace H : (some (1, 2, 10, 11, 0, 10, 100, 10, y326)) = some (r1, r2, r3, r4, r5, r6, r7, r8, r9) := by first | (rw [hy326]; with_reducible exact H) | (have H2_ := (Option.bind_some _ _).symm.trans H; rw [hy326]; with_reducible exact H2_) | (have H2_ := (Option.bind_some _ _).symm.trans H; with_reducible exact H2_) | with_reducible exact H | (rw [hy326]; exact H) | exact H
 have Ny326 := Aside0.mk (hy326)
 clear hy326
 simp only [Option.some.injEq, Prod.mk.injEq] at H
 obtain ⟨rfl, rfl, rfl, rfl, rfl, rfl, rfl, rfl, rfl⟩ := H
 go_enter Tryd.func67, Tryd.ntmps67
 go_wp2_with (first | ((with_reducible refine gate_dst (N := 0) rfl ?_); refine bxE 0 47 #[.int .i64 0, .int .i64 0, .int .i64 0, .int .i64 0, .int .i64 0, .int .i64 0, .int .i64 0, .int .i64 0, .slice none 0 0] (by rfl) (by rfl) (by first | (go_simp; done) | (go_simp; rfl)) ?_; intro gb325 hg w1 hbox hb; have BK325 := Bk.mk (hbox); have GE325 := eB w hg; replace HB := bS w hb; clear hb hbox hg) | ((with_reducible refine gate_dst (N := 2) rfl ?_); refine Kd.R_lit k71 _ 71 ?hg (N := 2) ?hd (xs := ([(⟨300, 200, 1155, 40, 5⟩ : S71)] : List (S71))) (inner := [.int .i64 300, .int .i64 200, .int .i64 1155, .int .i64 40, .int .i64 5]) (ok := fun _ => True) (okp := fun _ => True) ?hr ?hp (fun _ hk => hk) trivial (Below.refl _ _) (Nat.le_refl _) (by simp) ?_; (case hd => rfl); (case hg => rfl); (case hr => first | (go_simp; done) | (go_simp; rfl)); (case hp => exact (Reps.c5 (show Kd.M k71 _ _ _ (⟨300, 200, 1155, 40, 5⟩ : S71) [.int .i64 300, .int .i64 200, .int .i64 1155, .int .i64 40, .int .i64 5] from (k71_mkM _ _ _ (⟨300, 200, 1155, 40, 5⟩ : S71) )) (Reps.none _ _))); intro v327 w2 ho3 hb hg_ hnew_; clear hg_ hnew_; (first | rw [← Ny326.out] at ho3 | (simp only [Int.reduceToNat] at ho3; rw [← Ny326.out] at ho3)); have n0_ := Aside0.mk (Kd.R_lower ho3 (bz w)); replace BK325 := kB gb325 hb; replace HB := bS w hb; have HO328 := n0_; clear n0_ hb ho3; obtain ⟨Ao4, co4, eo4⟩ := Kd.R_slice HO328.out; subst eo4; obtain ⟨hcz5_0, hcz5_1, hcz5_2, hcz5_3, hcz5_4, hcz5_5, hcz5_6, hcz5_7, hcz5_8, hfz5_0, hfz5_1, hfz5_2, hfz5_3, hfz5_4, hfz5_5, hfz5_6, hfz5_7, hfz5_8⟩ := cz9 BK325))
 all_goals (refine bodyPost_ret (results_cell_row rfl _ _ gb325 47 #[.int .i64 1, .int .i64 2, .int .i64 10, .int .i64 11, .int .i64 0, .int .i64 10, .int .i64 100, .int .i64 10, .slice Ao4 y326.length co4] (0, 0) _ rfl (bko gb325 (by rfl)) Tryd.underlying47 rfl (by kernel_rfl)) rfl ?_; exact ⟨_, by first | rfl | (simp [errW_none, errW_some] <;> rfl) | (simp [*, errW_none, errW_some] <;> rfl), by (with_reducible repeat (first | apply Kd.R_alloc | apply Kd.R_drewN | apply Kd.R_drew)); exact Kd.R_mono (Kd.R_far (p := ⟨gb325, 8, none⟩) (Kd.R_far (p := ⟨gb325, 7, none⟩) (Kd.R_far (p := ⟨gb325, 6, none⟩) (Kd.R_far (p := ⟨gb325, 5, none⟩) (Kd.R_far (p := ⟨gb325, 4, none⟩) (Kd.R_far (p := ⟨gb325, 3, none⟩) (Kd.R_far (p := ⟨gb325, 2, none⟩) (Kd.R_far (p := ⟨gb325, 1, none⟩) (Kd.R_far (p := ⟨gb325, 0, none⟩) (Kd.R_types HO328.out BK325.out (by decide)) (fun _ hk => hk.2) (.int .i64 1)) (fun _ hk => hk.2) (.int .i64 2)) (fun _ hk => hk.2) (.int .i64 10)) (fun _ hk => hk.2) (.int .i64 11)) (fun _ hk => hk.2) (.int .i64 0)) (fun _ hk => hk.2) (.int .i64 10)) (fun _ hk => hk.2) (.int .i64 100)) (fun _ hk => hk.2) (.int .i64 10)) (fun _ hk => hk.2) (.slice Ao4 y326.length co4)) (fun _ hk => trivial), bw w⟩)
end Go.Proofs.YtapijkdgkajoeaaDoor.PF
end
section
namespace Go.Proofs.YtapijkdgkajoeaaDoor.PF
open Go.RowKit Go.Proofs.YtapijkdgkajoeaaDoorW.PrintWords Go.Proofs.YtapijkdgkajoeaaDoorW.PrintLast Go.Proofs.YtapijkdgkajoeaaDoorW.PrintMore
open Go.Shelf
set_option linter.unusedVariables false
theorem sizeB : (Tryd.prog.info? 142).map (·.size) = some 2 := by kernel_rfl
theorem liesB : liesAt Tryd.prog Tryd.prog.depth 144 (2 / Tryd.prog.cellsOf 144) 0 142 1 = true := by kernel_rfl
theorem infoU : (Tryd.prog.info? 5).map (fun i => (i.zero, i.size, i.bytes)) = some (some (.int .u8 0), 1, 1) := by kernel_rfl
theorem cellsU : Tryd.prog.cellsOf 5 = 1 := by kernel_rfl
def KeptT (b : Nat) (w w' : World) : Prop := ∀ k cs T fr, w.heap[k]? = some (.cells cs T fr) → T ≠ 5 → k ≠ b → w'.heap[k]? = some (.cells cs T fr)
theorem KeptT.refl (b : Nat) (w : World) : KeptT b w w := fun _ _ _ _ h _ _ => h
theorem KeptT.trans {b : Nat} {w w1 w2 : World} (h : KeptT b w w1) (h' : KeptT b w1 w2) : KeptT b w w2 := fun k cs T fr e t n => h' k cs T fr (h k cs T fr e t n) t n
theorem KeptT.below {b : Nat} {w w' : World} (h : Below w.heap.size w w') : KeptT b w w' := fun _ _ _ _ e _ _ => blk_below e h
theorem KeptT.set {b : Nat} {w w1 : World} (h : KeptT b w w1) (j : Nat) (u : Value) : KeptT b w (w1.setCell ⟨b, j, none⟩ u) := fun k cs T fr e t n => by
  rw [Below.heap_setCell _ _ _ _ n]
  exact h k cs T fr e t n
theorem builder_below {B b : Nat} {p : Value} {bs : List Value} {w w' : World} (h : Lib.BuilderAt 144 5 B b p bs w) (hb : Below w.heap.size w w') : Lib.BuilderAt 144 5 B b p bs w' := by
  obtain ⟨hB, v, hbk, hown, hne⟩ := h
  refine ⟨hB, v, blk_below hbk hb, own_move hown (fun k hk => ?_), hne⟩
  obtain ⟨cells, hc⟩ := own_typed hown k hk
  rw [hc]
  exact blk_below hc hb
theorem isBuilder_below {B b : Nat} {bs : List Value} {w w' : World} (h : Lib.IsBuilder 144 5 B b bs w) (hb : Below w.heap.size w w') : Lib.IsBuilder 144 5 B b bs w' := h.imp (fun h => builder_below h hb) (fun h => builder_below h hb)
set_option maxHeartbeats 1000000 in
set_option maxRecDepth 100000 in
theorem copyCheck_used (b : Nat) (w : World) (h0 : w.cell? ⟨b, 0, none⟩ = some (.pointer (some ⟨b, 0, none⟩))) :
    Calls Tryd.prog 137 #[.pointer (some ⟨b, 0, none⟩)] w fun e w' => e = .returned (.tuple #[]) ∧ w' = w := by
  obtain ⟨j, hj, _⟩ := Option.map_eq_some_iff.1 sizeB
  have t142 := Tryd.underlying142
  have t139 := Tryd.underlying139
  go_enter Tryd.func137, Tryd.ntmps137
  go_wp2
  rw [Lib.run_neq_ptr_same w _ Tryd.underlying139 hj]
  go_wp2
  go_end0
  exact ⟨rfl, rfl⟩
set_option maxHeartbeats 1000000 in
set_option maxRecDepth 100000 in
theorem copyCheck_fresh (b : Nat) (w : World) (h0 : w.cell? ⟨b, 0, none⟩ = some (.pointer none)) (hsh : w.shape? b = some (144, 2)) (hfz : w.frozen? ⟨b, 0, none⟩ = false) :
    Calls Tryd.prog 137 #[.pointer (some ⟨b, 0, none⟩)] w fun e w' => e = .returned (.tuple #[]) ∧ w' = w.setCell ⟨b, 0, none⟩ (.pointer (some ⟨b, 0, none⟩)) := by
  obtain ⟨j, hj, hjs⟩ := Option.map_eq_some_iff.1 sizeB
  have t142 := Tryd.underlying142
  have t139 := Tryd.underlying139
  have t161 := Tryd.underlying161
  go_enter Tryd.func137, Tryd.ntmps137
  go_wp2
  rw [Lib.run_to_unsafe w ⟨b, 0, none⟩ Tryd.underlying139 Tryd.underlying161 hj (by rw [hjs]; decide) hsh (Nat.zero_lt_succ 1)]
  simp only [Result.andThen]
  rw [Oper.upon_value]
  go_wp2
  rw [run_callFunc_extern Tryd.func140 (by kernel_rfl) (by kernel_rfl) (by kernel_rfl) (e := Extern.AbiNoEscape.same) (by kernel_rfl)]
  rw [Lib.run_noEscape]
  simp only [Result.andThen]
  rw [Oper.upon_value]
  go_wp2
  rw [Lib.run_from_unsafe w ⟨b, 0, none⟩ Tryd.underlying161 Tryd.underlying139 hj hsh liesB]
  simp only [Result.andThen]
  rw [Oper.upon_value]
  go_wp2
  go_end0
  exact ⟨rfl, rfl⟩
theorem copyCheck_calls (B b : Nat) (bs : List Value) (w : World) (h : Lib.IsBuilder 144 5 B b bs w) :
    Calls Tryd.prog 137 #[.pointer (some ⟨b, 0, none⟩)] w fun e w' => e = .returned (.tuple #[]) ∧ (Lib.BuilderAt 144 5 B b (.pointer (some ⟨b, 0, none⟩)) bs w' ∧ Below B w w' ∧ KeptT b w w') := by
  rcases h with h | h
  · refine (copyCheck_fresh b w h.cell0 h.shape h.frozen0).mono ?_
    rintro e w' ⟨rfl, rfl⟩
    exact ⟨rfl, h.used _, (Below.refl B w).setCell (p := ⟨b, 0, none⟩) h.1 _, (KeptT.refl b w).set 0 _⟩
  · refine (copyCheck_used b w h.cell0).mono ?_
    rintro e w' ⟨rfl, rfl⟩
    exact ⟨rfl, h, Below.refl B _, KeptT.refl b _⟩
set_option maxHeartbeats 2000000 in
set_option maxRecDepth 100000 in
theorem WriteString_calls (B b : Nat) (bs : List Value) (s : ByteArray) (w : World) (h : Lib.IsBuilder 144 5 B b bs w) (hlen : bs.length + s.size ≤ 140737488355328) (hBw : B ≤ w.heap.size) :
    Calls Tryd.prog 125 #[.pointer (some ⟨b, 0, none⟩), .string s] w fun e w' => e = .returned (.tuple #[.int .i64 s.size, .nilIface]) ∧ (Lib.BuilderAt 144 5 B b (.pointer (some ⟨b, 0, none⟩)) (bs ++ Lib.strCells s) w' ∧ Below B w w' ∧ KeptT b w w') := by
  obtain ⟨i0, hi, hz0, hz1, hz2⟩ := info_parts infoU
  have t142 := Tryd.underlying142
  have t139 := Tryd.underlying139
  have t140 := Tryd.underlying140
  go_enter Tryd.func125, Tryd.ntmps125
  go_wp2_with (go_at_call 137; refine (copyCheck_calls B b bs _ h).mono ?_)
  rintro e w1 ⟨rfl, h1, hb1, hk1⟩
  obtain ⟨hB, v, hbk, hown, hne⟩ := h1
  have c0 : w1.cell? ⟨b, 0, none⟩ = some (.pointer (some ⟨b, 0, none⟩)) := by rw [Lib.cell_of_heap hbk]; rfl
  have c1 : w1.cell? ⟨b, 1, none⟩ = some v := by rw [Lib.cell_of_heap hbk]; rfl
  go_wp2_with (at_builtin; refine Lib.wpList_append_own_string _ rfl _ _ 140 9 rfl B 5 i0 Tryd.underlying140 Tryd.underlying9 hi hz0 hz1 hz2 _ _ _ rfl hown s rfl ?c3 ?c4 ?c5 ?_)
  case c3 => unfold maxLen; omega
  case c4 => omega
  case c5 => have := hb1.size; omega
  intro v' w2 hown' hgrow _
  have hlt : b < w1.heap.size := by
    rcases Nat.lt_or_ge b w1.heap.size with h' | h'
    · exact h'
    · simp [Array.getElem?_eq_none h'] at hbk
  have hb2 : w2.heap[b]? = some (.cells #[.pointer (some ⟨b, 0, none⟩), v] 144 (0, 0)) := by
    rw [hgrow.block b hlt (fun e => hne e.symm)]
    exact hbk
  have d0 : w2.cell? ⟨b, 0, none⟩ = some (.pointer (some ⟨b, 0, none⟩)) := by rw [Lib.cell_of_heap hb2]; rfl
  have d1 : w2.cell? ⟨b, 1, none⟩ = some v := by rw [Lib.cell_of_heap hb2]; rfl
  have f1 : w2.frozen? ⟨b, 1, none⟩ = false := Lib.frozen_of_heap hb2 1
  have k2 : KeptT b w1 w2 := fun k cs T fr e t n => by
    rw [hgrow.block k (blk_lt e) (fun e' => ?_)]
    · exact e
    · obtain ⟨cells, hc⟩ := own_typed hown k e'.symm
      rw [hc] at e
      simp only [Option.some.injEq, Obj.cells.injEq] at e
      exact t e.2.1.symm
  obtain ⟨ao, n', cap, rfl⟩ : ∃ ao n' cap, v' = .slice ao n' cap := by
    rcases hown'.2 with ⟨hv, _⟩ | ⟨g, cap, cur, hv, _⟩
    · exact ⟨_, _, _, hv⟩
    · exact ⟨_, _, _, hv⟩
  go_wp2
  go_ret2
  refine ⟨rfl, ?_, ?_, ?_⟩
  · exact Lib.BuilderAt.put (T := 144) (e := 5) hB hb2 (bs' := bs ++ Lib.strCells s) (by simpa [Lib.strCells_length] using hown') (by decide)
  · exact (hb1.grown hgrow (by have := hb1.size; omega) (fun k hk => (hown.lt k hk).1)).setCell (p := ⟨b, 1, none⟩) hB _
  · exact (hk1.trans k2).set 1 _
set_option maxHeartbeats 1000000 in
set_option maxRecDepth 100000 in
theorem String_calls (B b : Nat) (l : List UInt8) (w : World) (h : Lib.IsBuilder 144 5 B b (Lib.byteCells l) w) (h0 : l ≠ []) :
    Calls Tryd.prog 127 #[.pointer (some ⟨b, 0, none⟩)] w fun e w' => e = .returned (.string ⟨l.toArray⟩) ∧ Below B w w' := by
  obtain ⟨p, hB, v, hbk, hown, hne⟩ : ∃ p, Lib.BuilderAt 144 5 B b p (Lib.byteCells l) w := by
    rcases h with h | h
    · exact ⟨_, h⟩
    · exact ⟨_, h⟩
  have hl0 : l.length ≠ 0 := by simpa using h0
  rw [Lib.byteCells_length] at hown
  obtain ⟨g, cap, cur, rfl, hbg, hg, hnc, hcm, hcs, htake⟩ : ∃ g cap cur, v = .slice (some ⟨g, 0, none⟩) l.length cap ∧ B ≤ g ∧ w.heap[g]? = some (.cells cur 5 (0, 0)) ∧ l.length ≤ cap ∧ cap ≤ maxLen ∧ cur.size = cap * 1 ∧ cur.toList.take (l.length * 1) = Lib.byteCells l := by
    rcases hown.2 with ⟨_, hz⟩ | ⟨g, cap, cur, hv, r⟩
    · exact absurd hz hl0
    · exact ⟨g, cap, cur, hv, r⟩
  have c1 : w.drew.cell? ⟨b, 1, none⟩ = some (.slice (some ⟨g, 0, none⟩) l.length cap) := by
    have : w.drew.heap[b]? = some (.cells #[p, .slice (some ⟨g, 0, none⟩) l.length cap] 144 (0, 0)) := hbk
    rw [Lib.cell_of_heap this]; rfl
  have hSD : (Builtin.unsafeSliceData_ #[140] 159 #[.slice (some ⟨g, 0, none⟩) l.length cap]).run Tryd.prog w.drew = .ok (.pointer (some ⟨g, 0, none⟩)) w.drew :=
    Lib.run_unsafeSliceData_row _ _ _ _ _ _ (by omega)
  have hUS : (Builtin.unsafeString_ #[159, 3] 9 #[.pointer (some ⟨g, 0, none⟩), .int .i64 l.length]).run Tryd.prog w.drew = .ok (.string ⟨l.toArray⟩) (w.drew.freeze ⟨g, 0, none⟩ l.length) := by
    refine Lib.run_unsafeString_row w.drew 159 3 9 5 Tryd.underlying159 cellsU g cur.size (by have hg' : w.drew.heap[g]? = some (.cells cur 5 (0, 0)) := hg; simp [World.shape?, hg']) l h0 (by omega) (by unfold maxLen at hcm; omega) ?_
    intro j x hx
    have := hown.cells (g := g) rfl j (.int .u8 x.toNat) (by simp [Lib.byteCells, hx])
    exact this
  have t142 := Tryd.underlying142
  have t139 := Tryd.underlying139
  have t140 := Tryd.underlying140
  have t159 := Tryd.underlying159
  have mixed : Tryd.prog.follows Departure.mixedOrders = true := by kernel_rfl
  go_enter Tryd.func127, Tryd.ntmps127
  go_wp2
  go_region_o
  all_goals (go_wp2; go_ret; exact ⟨rfl, Lib.below_freeze (Below.drew (Below.refl B w)) (p := ⟨g, 0, none⟩) hbg _⟩)
end Go.Proofs.YtapijkdgkajoeaaDoor.PF
end
section
namespace Go.Proofs
open Go.Shelf
def Tryd.laysM171_ren : Go.Shelf.Ren := ⟨fun | 171 => 138 | 243 => 141 | 246 => 142 | 283 => 143 | 284 => 144 | 285 => 145 | 286 => 146 | 129 => 148 | 317 => 147 | 318 => 149 | 319 => 150 | 320 => 151 | 337 => 152 | 338 => 153 | n => n, fun | 3 => 3 | 9 => 9 | 2 => 2 | 4 => 4 | 171 => 164 | 0 => 0 | 53 => 165 | 37 => 140 | 5 => 5 | 173 => 168 | 212 => 172 | 51 => 173 | 20 => 20 | 213 => 174 | 46 => 137 | 232 => 177 | 233 => 178 | n => n, fun | 17 => 0 | 18 => 1 | 19 => 2 | n => n⟩
theorem Tryd.laysM171 : Go.Proofs.LaysM.n171 Tryd.prog Tryd.laysM171_ren := {
  mixed := by kernel_rfl
  f129 := Tryd.func148.trans (congrArg some (by kernel_rfl))
  f171 := Tryd.func138.trans (congrArg some (by kernel_rfl))
  f243 := Tryd.func141.trans (congrArg some (by kernel_rfl))
  f246 := Tryd.func142.trans (congrArg some (by kernel_rfl))
  f283 := Tryd.func143.trans (congrArg some (by kernel_rfl))
  f284 := Tryd.func144.trans (congrArg some (by kernel_rfl))
  f285 := Tryd.func145.trans (congrArg some (by kernel_rfl))
  f286 := Tryd.func146.trans (congrArg some (by kernel_rfl))
  f317 := Tryd.func147.trans (congrArg some (by kernel_rfl))
  f318 := Tryd.func149.trans (congrArg some (by kernel_rfl))
  f319 := Tryd.func150.trans (congrArg some (by kernel_rfl))
  f320 := Tryd.func151.trans (congrArg some (by kernel_rfl))
  f337 := Tryd.func152.trans (congrArg some (by kernel_rfl))
  f338 := Tryd.func153.trans (congrArg some (by kernel_rfl))
  t0 := Tryd.underlying0
  a0 := Tryd.isAgg0
  z0 := Tryd.sizeOf0
  v0 := Tryd.zeroValue0
  t2 := Tryd.underlying2
  a2 := Tryd.isAgg2
  z2 := Tryd.sizeOf2
  v2 := Tryd.zeroValue2
  t3 := Tryd.underlying3
  a3 := Tryd.isAgg3
  z3 := Tryd.sizeOf3
  v3 := Tryd.zeroValue3
  t4 := Tryd.underlying4
  a4 := Tryd.isAgg4
  z4 := Tryd.sizeOf4
  v4 := Tryd.zeroValue4
  t5 := Tryd.underlying5
  a5 := Tryd.isAgg5
  z5 := Tryd.sizeOf5
  v5 := Tryd.zeroValue5
  t9 := Tryd.underlying9
  a9 := Tryd.isAgg9
  z9 := Tryd.sizeOf9
  v9 := Tryd.zeroValue9
  t20 := Tryd.underlying20
  a20 := Tryd.isAgg20
  z20 := Tryd.sizeOf20
  v20 := Tryd.zeroValue20
  t37 := Tryd.underlying140
  a37 := Tryd.isAgg140
  z37 := Tryd.sizeOf140
  v37 := Tryd.zeroValue140
  t46 := Tryd.underlying137
  a46 := Tryd.isAgg137
  z46 := Tryd.sizeOf137
  v46 := Tryd.zeroValue137
  t51 := Tryd.underlying173
  a51 := Tryd.isAgg173
  z51 := Tryd.sizeOf173
  v51 := Tryd.zeroValue173
  t53 := Tryd.underlying165
  a53 := Tryd.isAgg165
  z53 := Tryd.sizeOf165
  v53 := Tryd.zeroValue165
  t171 := Tryd.underlying164
  a171 := Tryd.isAgg164
  z171 := Tryd.sizeOf164
  v171 := Tryd.zeroValue164
  t173 := Tryd.underlying168
  a173 := Tryd.isAgg168
  z173 := Tryd.sizeOf168
  v173 := Tryd.zeroValue168
  t212 := Tryd.underlying172
  a212 := Tryd.isAgg172
  z212 := Tryd.sizeOf172
  v212 := Tryd.zeroValue172
  t213 := Tryd.underlying174
  a213 := Tryd.isAgg174
  z213 := Tryd.sizeOf174
  t232 := Tryd.underlying177
  a232 := Tryd.isAgg177
  z232 := Tryd.sizeOf177
  v232 := Tryd.zeroValue177
  t233 := Tryd.underlying178
  a233 := Tryd.isAgg178
  z233 := Tryd.sizeOf178
  v233 := Tryd.zeroValue178
  g17 := by kernel_rfl
  g18 := by kernel_rfl
  g19 := by kernel_rfl
  i0 := by kernel_rfl
  i2 := by kernel_rfl
  i3 := by kernel_rfl
  i4 := by kernel_rfl
  i5 := by kernel_rfl
  i9 := by kernel_rfl
  i20 := by kernel_rfl
  i37 := by kernel_rfl
  i46 := by kernel_rfl
  i51 := by kernel_rfl
  i53 := by kernel_rfl
  i171 := by kernel_rfl
  i173 := by kernel_rfl
  i212 := by kernel_rfl
  i232 := by kernel_rfl
  i233 := by kernel_rfl
  m17 := by kernel_rfl
  m18 := by kernel_rfl
  m19 := by kernel_rfl }
open Go.RowKit Go.Sort Go.Lib in
theorem Tryd.strconv_Itoa (n : Int) (h0 : -9223372036854775808 ≤ n) (h1 : n ≤ 9223372036854775807) (w : World) (htab : Lib.TabIs Tryd.prog w "internal/strconv.uint64pow10" .u64 Lib.pow10Tab) :
    Calls Tryd.prog 138 #[.int .i64 n] w fun e w' => e = .returned (.string ⟨(Lib.itoa n).toArray⟩) ∧ ∃ k os, w' = grow (w.drewN k) os := Any.strconv_Itoa Tryd.laysM171 n h0 h1 w htab
end Go.Proofs
end
