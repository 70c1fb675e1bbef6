/- For every input, with the program's own tables laid as its text lays them, the law CourseSheets returns true and leaves its arguments as they read; no condition. Part 3 of 6. -/
import Derived.Test.YtapijkdgkajoeaaDoorShB
section
namespace Go.Proofs.YtapijkdgkajoeaaDoor.PF
open Go.RowKit Go.Proofs.YtapijkdgkajoeaaDoorW.PrintWords Go.Proofs.YtapijkdgkajoeaaDoorW.PrintLast Go.Proofs.YtapijkdgkajoeaaDoorW.PrintMore
attribute [local go_sem] max2_int min2_int max_two min_two
set_option linter.unusedVariables false
set_option linter.unusedSimpArgs false
attribute [local go_sem high] ixA103_1
def course_turn.f (k : Nat) (a0_0 : Int) (a0_1 : Int) (l0_2 : List (S26)) (a1 : Int) (a2 : Int) (a3 : Int) : Option (Int × Int) := (course_drift.f k a0_0 a0_1 l0_2 a1 a3).bind fun bt171 => ((course_drift.f k a0_0 a0_1 l0_2 a2 a3).bind fun bt173 => ((course_apart.f a1 a2).bind fun t177 => ((course_ends_wider.f 0 0 (wrap64 (a0_1 * t177))).bind fun bt178 => ((course_ends_meet.f (wrap64 (bt173.1 - bt171.2)) (wrap64 (bt173.2 - bt171.1)) bt178.1 bt178.2).bind fun bt180 => (some (bt180.1, bt180.2))))))
theorem course_turn.mono : ∀ a0 a1 a2 a3 a4 a5 k, LeO (course_turn.f k a0 a1 a2 a3 a4 a5) (course_turn.f (k + 1) a0 a1 a2 a3 a4 a5) := by
 intro a0 a1 a2 a3 a4 a5 k
 unfold course_turn.f
 repeat' first
   | (with_reducible exact course_drift.mono _ _ _ _ _ _)
   | (with_reducible exact LeO.refl _)
   | (with_reducible exact LeO.none _)
   | (with_reducible refine LeO.ite ?_ ?_)
   | (with_reducible refine LeO.bind ?_ (fun _ => ?_))
   | exact course_drift.mono _ _ _ _ _ _
   | exact LeO.none _
   | refine LeO.ite ?_ ?_
   | refine LeO.bind ?_ (fun _ => ?_)
def course_turn.T1 : Bool × List (List Nat × List Nat) := (true, [([], []), ([], []), ([], []), ([0, 1, 2], [0, 1, 2]), ([], []), ([], []), ([], []), ([4, 5, 6, 3], [4, 5, 6]), ([], []), ([], []), ([8, 3, 7, 0, 1, 2, 3, 8, 9], [3, 8]), ([9, 7, 10, 0, 1, 2, 3, 4, 5, 6, 7, 8, 9, 10], [7, 9])])
def course_turn.B1 : List Nat := [0, 0, 0, 7, 0, 0, 0, 127, 0, 0, 1023, 2047]
theorem course_turn.tab1 : rtab .any (opsOf Tryd.f79 1) = course_turn.T1 := by kernel_rfl
theorem course_turn.bits1 : waitsOk course_turn.T1.2 course_turn.B1 = true := by kernel_rfl
def course_turn.T2 : Bool × List (List Nat × List Nat) := (true, [([], []), ([0], [0]), ([], []), ([2], [2]), ([1, 3], [1, 3]), ([], []), ([5], [5]), ([], []), ([7], [7]), ([6, 8], [6, 8]), ([4, 9], [4, 9]), ([], []), ([], []), ([12], [12]), ([], []), ([], []), ([14, 15], [14, 15]), ([13, 16], [13, 16]), ([11, 17, 16], [11, 17]), ([10, 18, 18], [10, 18]), ([19, 19, 0, 1, 2, 3, 4, 5, 6, 7, 8, 9, 10, 11, 12, 13, 14, 15, 16, 17, 18, 19], [19])])
def course_turn.B2 : List Nat := [0, 1, 0, 4, 15, 0, 32, 0, 128, 480, 1023, 0, 0, 4096, 0, 0, 49152, 126976, 260096, 524287, 1048575]
theorem course_turn.tab2 : rtab .any (opsOf Tryd.f79 2) = course_turn.T2 := by kernel_rfl
theorem course_turn.bits2 : waitsOk course_turn.T2.2 course_turn.B2 = true := by kernel_rfl
set_option maxHeartbeats 8000000 in
set_option maxRecDepth 100000 in
theorem course_turn.calls (k : Nat) (a0_0 : Int) (a0_1 : Int) (A0_2 : Option Addr) (c0_2 : Nat) (l0_2 : List (S26)) (a1 : Int) (a2 : Int) (a3 : Int) (r1 : Int) (r2 : Int) (w : World) (hr0_2 : Kd.C k26 w A0_2 l0_2.length l0_2) (hc0_2 : l0_2.length ≤ c0_2) (h : course_turn.f k a0_0 a0_1 l0_2 a1 a2 a3 = some (r1, r2)) :
  Calls Tryd.prog 79 #[.agg #[.int .i64 a0_0, .int .i64 a0_1, .slice A0_2 l0_2.length c0_2], .int .i64 a1, .int .i64 a2, .int .i64 a3] w fun e w' => e = .returned (.agg #[.int .i64 r1, .int .i64 r2]) ∧ Below w.heap.size w w' := by
 have hu24 := Tryd.underlying24
 have hu103 := Tryd.underlying103
 have HR0_2 := Aside0.mk (hr0_2)
 have HC0_2 := Aside0.mk (hc0_2)
 clear hr0_2 hc0_2
 have HB := Bw.mk (Below.refl w.heap.size w)
 have H : ((course_drift.f k a0_0 a0_1 l0_2 a1 a3).bind fun bt171 => ((course_drift.f k a0_0 a0_1 l0_2 a2 a3).bind fun bt173 => ((course_apart.f a1 a2).bind fun t177 => ((course_ends_wider.f 0 0 (wrap64 (a0_1 * t177))).bind fun bt178 => ((course_ends_meet.f (wrap64 (bt173.1 - bt171.2)) (wrap64 (bt173.2 - bt171.1)) bt178.1 bt178.2).bind fun bt180 => (some (bt180.1, bt180.2))))))) = some (r1, r2) := h
 clear h
 replace H := Option.bind_eq_some_iff.mp H
 obtain ⟨⟨t171, t172⟩, A50, H⟩ := H
 have A5 := Aside0.mk (A50)
 clear A50
 replace H := Option.bind_eq_some_iff.mp H
 obtain ⟨⟨t173, t174⟩, A60, H⟩ := H
 have A6 := Aside0.mk (A60)
 clear A60
 replace H := Option.bind_eq_some_iff.mp H
 obtain ⟨t177, A70, H⟩ := H
 have A7 := Aside0.mk (A70)
 clear A70
 replace H := Option.bind_eq_some_iff.mp H
 obtain ⟨⟨t178, t179⟩, A80, H⟩ := H
 have A8 := Aside0.mk (A80)
 clear A80
 replace H := Option.bind_eq_some_iff.mp H
 obtain ⟨⟨t180, t181⟩, A90, H⟩ := H
 have A9 := Aside0.mk (A90)
 clear A90
 simp only [Option.some.injEq, Prod.mk.injEq] at H
 obtain ⟨rfl, rfl⟩ := H
 go_enter Tryd.func79, Tryd.ntmps79
 try go_wp2_with (first | ((with_reducible refine gate_dst (N := 4) rfl ?_); refine bxE 4 24 #[.int .i64 a0_0, .int .i64 a0_1, .slice A0_2 l0_2.length c0_2] (by rfl) (by rfl) (by first | (go_simp; done) | (go_simp; rfl)) ?_; intro gb169 hg w10 hbox hb; have BK169 := Bk.mk (hbox); have GE169 := eB w hg; replace HB := bS w hb; clear hb hbox hg) | ((with_reducible refine gate_dst (N := 8) rfl ?_); refine bxE 8 103 #[.int .i64 0, .int .i64 0] (by rfl) (by rfl) (by first | (go_simp; done) | (go_simp; rfl)) ?_; intro gb170 hg w11 hbox hb; have BK170 := Bk.mk (hbox); have GE170 := eB w hg; have NB169_170 := nB gb169 hg; replace BK169 := kB gb169 hb; replace HB := bS w hb; clear hb hbox hg))
 have n0_ := Bk.mk (blk_drew BK169.out)
 have n1_ := Bk.mk (blk_drew BK170.out)
 have n2_ := Bw.mk (below_drew1 HB.out)
 clear BK169 BK170 HB
 have BK169 := n0_
 have BK170 := n1_
 have HB := n2_
 clear n0_ n1_ n2_
 refine start_ (n := 12) (S := fun w' => w'.cell? ⟨gb169, 0, none⟩ = some (.int .i64 a0_0) ∧ w'.cell? ⟨gb169, 1, none⟩ = some (.int .i64 a0_1) ∧ w'.cell? ⟨gb169, 2, none⟩ = some (.slice A0_2 l0_2.length c0_2)) (ds := []) #[false, false, false, false, false, false, false, false, false, false, false, false] (by kernel_rfl) rfl rfl ⟨bc BK169 0, bc BK169 1, bc BK169 2⟩ (fun hHeld => ?_); refine with_tabW course_turn.tab1 course_turn.bits1 (fun HT_ HW_ => ?_)
 generalize w11.drew = w12 at BK169 BK170 HB hHeld ⊢
 refine pS 1 (some 12) rfl rfl (any_of HT_.out (by kernel_rfl)) (fun _ _ _ h => h) (by rfl) (fun w' => by go_simp; with_reducible rfl) (by simp only [Act.put, List.setIfInBounds_toArray, List.set_cons_zero, List.set_cons_succ, i64_w]; rfl) ?_
 refine pS 2 (some 13) rfl rfl (any_of HT_.out (by kernel_rfl)) (fun _ _ _ h => h) (by rfl) (fun w' => by go_simp; with_reducible rfl) (by simp only [Act.put, List.setIfInBounds_toArray, List.set_cons_zero, List.set_cons_succ, i64_w]; rfl) ?_
 refine pS 5 (some 16) rfl rfl (any_of HT_.out (by kernel_rfl)) (fun _ _ _ h => h) (by rfl) (fun w' => by go_simp; with_reducible rfl) (by simp only [Act.put, List.setIfInBounds_toArray, List.set_cons_zero, List.set_cons_succ, i64_w]; rfl) ?_
 refine pS 6 (some 17) rfl rfl (any_of HT_.out (by kernel_rfl)) (fun _ _ _ h => h) (by rfl) (fun w' => by go_simp; with_reducible rfl) (by simp only [Act.put, List.setIfInBounds_toArray, List.set_cons_zero, List.set_cons_succ, i64_w]; rfl) ?_
 refine tS 0 (some 11) rfl rfl (take_ofW HT_.out HW_.out (by kernel_rfl)) (fun _ _ _ h => h) (by rfl) (by rintro w' ⟨s0, s1, s2⟩; go_simp; with_reducible rfl) hHeld (by simp only [Act.put, List.setIfInBounds_toArray, List.set_cons_zero, List.set_cons_succ, i64_w]; rfl) ?_
 refine tS 4 (some 15) rfl rfl (take_ofW HT_.out HW_.out (by kernel_rfl)) (fun _ _ _ h => h) (by rfl) (by rintro w' ⟨s0, s1, s2⟩; go_simp; with_reducible rfl) hHeld (by simp only [Act.put, List.setIfInBounds_toArray, List.set_cons_zero, List.set_cons_succ, i64_w]; rfl) ?_
 refine join_ (σ := Nat × Nat) 2 #[true, true, true, true, true, true, true, true, true, true, false, false] (fun s_ => [(14, .agg #[.int .i64 t171, .int .i64 t172]), (18, .agg #[.int .i64 t173, .int .i64 t174]), (9, .pointer (some ⟨s_.1, 0, none⟩)), (10, .pointer (some ⟨s_.2, 0, none⟩))]) (fun s_ w' => (w'.cell? ⟨gb169, 0, none⟩ = some (.int .i64 a0_0) ∧ w'.cell? ⟨gb169, 1, none⟩ = some (.int .i64 a0_1) ∧ w'.cell? ⟨gb169, 2, none⟩ = some (.slice A0_2 l0_2.length c0_2)) ∧ (w'.heap[gb169]? = some (.cells #[.int .i64 a0_0, .int .i64 a0_1, .slice A0_2 l0_2.length c0_2] 24 (0, 0))) ∧ (w'.heap[gb170]? = some (.cells #[.int .i64 0, .int .i64 0] 103 (0, 0))) ∧ (w'.heap[s_.1]? = some (.cells #[.int .i64 0, .int .i64 0] 103 (0, 0))) ∧ (w'.heap[s_.2]? = some (.cells #[.int .i64 0, .int .i64 0] 103 (0, 0))) ∧ (w.heap.size ≤ s_.1) ∧ (w.heap.size ≤ s_.1) ∧ (gb169 ≠ s_.1) ∧ (s_.1 ≠ gb169) ∧ (gb170 ≠ s_.1) ∧ (s_.1 ≠ gb170) ∧ (s_.2 ≠ s_.1) ∧ (s_.1 ≠ s_.2) ∧ (w.heap.size ≤ s_.2) ∧ (w.heap.size ≤ s_.2) ∧ (gb169 ≠ s_.2) ∧ (s_.2 ≠ gb169) ∧ (gb170 ≠ s_.2) ∧ (s_.2 ≠ gb170) ∧ (Below w.heap.size w w')) ?_ ?_
 rotate_left
 ·
  intro hJ3_7_8_9
  refine join_ (σ := Nat) 3 #[true, true, true, true, true, true, true, true, true, false, false, false] (fun s_ => [(14, .agg #[.int .i64 t171, .int .i64 t172]), (18, .agg #[.int .i64 t173, .int .i64 t174]), (9, .pointer (some ⟨s_, 0, none⟩))]) (fun s_ w' => (w'.cell? ⟨gb169, 0, none⟩ = some (.int .i64 a0_0) ∧ w'.cell? ⟨gb169, 1, none⟩ = some (.int .i64 a0_1) ∧ w'.cell? ⟨gb169, 2, none⟩ = some (.slice A0_2 l0_2.length c0_2)) ∧ (w'.heap[gb169]? = some (.cells #[.int .i64 a0_0, .int .i64 a0_1, .slice A0_2 l0_2.length c0_2] 24 (0, 0))) ∧ (w'.heap[gb170]? = some (.cells #[.int .i64 0, .int .i64 0] 103 (0, 0))) ∧ (w'.heap[s_]? = some (.cells #[.int .i64 0, .int .i64 0] 103 (0, 0))) ∧ (w.heap.size ≤ s_) ∧ (w.heap.size ≤ s_) ∧ (gb169 ≠ s_) ∧ (s_ ≠ gb169) ∧ (gb170 ≠ s_) ∧ (s_ ≠ gb170) ∧ (Below w.heap.size w w')) ?_ ?_
  rotate_left
  ·
   intro hJ3_7_8
   refine join_ (σ := Nat) 3 #[true, true, true, true, true, true, true, true, false, true, false, false] (fun s_ => [(14, .agg #[.int .i64 t171, .int .i64 t172]), (18, .agg #[.int .i64 t173, .int .i64 t174]), (10, .pointer (some ⟨s_, 0, none⟩))]) (fun s_ w' => (w'.cell? ⟨gb169, 0, none⟩ = some (.int .i64 a0_0) ∧ w'.cell? ⟨gb169, 1, none⟩ = some (.int .i64 a0_1) ∧ w'.cell? ⟨gb169, 2, none⟩ = some (.slice A0_2 l0_2.length c0_2)) ∧ (w'.heap[gb169]? = some (.cells #[.int .i64 a0_0, .int .i64 a0_1, .slice A0_2 l0_2.length c0_2] 24 (0, 0))) ∧ (w'.heap[gb170]? = some (.cells #[.int .i64 0, .int .i64 0] 103 (0, 0))) ∧ (w'.heap[s_]? = some (.cells #[.int .i64 0, .int .i64 0] 103 (0, 0))) ∧ (w.heap.size ≤ s_) ∧ (w.heap.size ≤ s_) ∧ (gb169 ≠ s_) ∧ (s_ ≠ gb169) ∧ (gb170 ≠ s_) ∧ (s_ ≠ gb170) ∧ (Below w.heap.size w w')) ?_ ?_
   rotate_left
   ·
    intro hJ3_7_9
    refine join_ (σ := Nat × Nat) 3 #[true, true, true, true, true, true, true, false, true, true, false, false] (fun s_ => [(14, .agg #[.int .i64 t171, .int .i64 t172]), (9, .pointer (some ⟨s_.1, 0, none⟩)), (10, .pointer (some ⟨s_.2, 0, none⟩))]) (fun s_ w' => (w'.cell? ⟨gb169, 0, none⟩ = some (.int .i64 a0_0) ∧ w'.cell? ⟨gb169, 1, none⟩ = some (.int .i64 a0_1) ∧ w'.cell? ⟨gb169, 2, none⟩ = some (.slice A0_2 l0_2.length c0_2)) ∧ (w'.heap[gb169]? = some (.cells #[.int .i64 a0_0, .int .i64 a0_1, .slice A0_2 l0_2.length c0_2] 24 (0, 0))) ∧ (w'.heap[gb170]? = some (.cells #[.int .i64 0, .int .i64 0] 103 (0, 0))) ∧ (w'.heap[s_.1]? = some (.cells #[.int .i64 0, .int .i64 0] 103 (0, 0))) ∧ (w'.heap[s_.2]? = some (.cells #[.int .i64 0, .int .i64 0] 103 (0, 0))) ∧ (w.heap.size ≤ s_.1) ∧ (w.heap.size ≤ s_.1) ∧ (gb169 ≠ s_.1) ∧ (s_.1 ≠ gb169) ∧ (gb170 ≠ s_.1) ∧ (s_.1 ≠ gb170) ∧ (s_.2 ≠ s_.1) ∧ (s_.1 ≠ s_.2) ∧ (w.heap.size ≤ s_.2) ∧ (w.heap.size ≤ s_.2) ∧ (gb169 ≠ s_.2) ∧ (s_.2 ≠ gb169) ∧ (gb170 ≠ s_.2) ∧ (s_.2 ≠ gb170) ∧ (Below w.heap.size w w')) ?_ ?_
    rotate_left
    ·
     intro hJ3_8_9
     refine join_ (σ := Unit) 4 #[true, true, true, true, true, true, true, true, false, false, false, false] (fun s_ => [(14, .agg #[.int .i64 t171, .int .i64 t172]), (18, .agg #[.int .i64 t173, .int .i64 t174])]) (fun s_ w' => (w'.cell? ⟨gb169, 0, none⟩ = some (.int .i64 a0_0) ∧ w'.cell? ⟨gb169, 1, none⟩ = some (.int .i64 a0_1) ∧ w'.cell? ⟨gb169, 2, none⟩ = some (.slice A0_2 l0_2.length c0_2)) ∧ (w'.heap[gb169]? = some (.cells #[.int .i64 a0_0, .int .i64 a0_1, .slice A0_2 l0_2.length c0_2] 24 (0, 0))) ∧ (w'.heap[gb170]? = some (.cells #[.int .i64 0, .int .i64 0] 103 (0, 0))) ∧ (Below w.heap.size w w')) ?_ ?_
     rotate_left
     ·
      intro hJ3_7
      refine join_ (σ := Nat) 4 #[true, true, true, true, true, true, true, false, true, false, false, false] (fun s_ => [(14, .agg #[.int .i64 t171, .int .i64 t172]), (9, .pointer (some ⟨s_, 0, none⟩))]) (fun s_ w' => (w'.cell? ⟨gb169, 0, none⟩ = some (.int .i64 a0_0) ∧ w'.cell? ⟨gb169, 1, none⟩ = some (.int .i64 a0_1) ∧ w'.cell? ⟨gb169, 2, none⟩ = some (.slice A0_2 l0_2.length c0_2)) ∧ (w'.heap[gb169]? = some (.cells #[.int .i64 a0_0, .int .i64 a0_1, .slice A0_2 l0_2.length c0_2] 24 (0, 0))) ∧ (w'.heap[gb170]? = some (.cells #[.int .i64 0, .int .i64 0] 103 (0, 0))) ∧ (w'.heap[s_]? = some (.cells #[.int .i64 0, .int .i64 0] 103 (0, 0))) ∧ (w.heap.size ≤ s_) ∧ (w.heap.size ≤ s_) ∧ (gb169 ≠ s_) ∧ (s_ ≠ gb169) ∧ (gb170 ≠ s_) ∧ (s_ ≠ gb170) ∧ (Below w.heap.size w w')) ?_ ?_
      rotate_left
      ·
       intro hJ3_8
       refine join_ (σ := Nat) 4 #[true, true, true, true, true, true, true, false, false, true, false, false] (fun s_ => [(14, .agg #[.int .i64 t171, .int .i64 t172]), (10, .pointer (some ⟨s_, 0, none⟩))]) (fun s_ w' => (w'.cell? ⟨gb169, 0, none⟩ = some (.int .i64 a0_0) ∧ w'.cell? ⟨gb169, 1, none⟩ = some (.int .i64 a0_1) ∧ w'.cell? ⟨gb169, 2, none⟩ = some (.slice A0_2 l0_2.length c0_2)) ∧ (w'.heap[gb169]? = some (.cells #[.int .i64 a0_0, .int .i64 a0_1, .slice A0_2 l0_2.length c0_2] 24 (0, 0))) ∧ (w'.heap[gb170]? = some (.cells #[.int .i64 0, .int .i64 0] 103 (0, 0))) ∧ (w'.heap[s_]? = some (.cells #[.int .i64 0, .int .i64 0] 103 (0, 0))) ∧ (w.heap.size ≤ s_) ∧ (w.heap.size ≤ s_) ∧ (gb169 ≠ s_) ∧ (s_ ≠ gb169) ∧ (gb170 ≠ s_) ∧ (s_ ≠ gb170) ∧ (Below w.heap.size w w')) ?_ ?_
       rotate_left
       ·
        intro hJ3_9
        refine join_ (σ := Nat × Nat) 4 #[true, true, true, false, true, true, true, false, true, true, false, false] (fun s_ => [(9, .pointer (some ⟨s_.1, 0, none⟩)), (10, .pointer (some ⟨s_.2, 0, none⟩))]) (fun s_ w' => (w'.cell? ⟨gb169, 0, none⟩ = some (.int .i64 a0_0) ∧ w'.cell? ⟨gb169, 1, none⟩ = some (.int .i64 a0_1) ∧ w'.cell? ⟨gb169, 2, none⟩ = some (.slice A0_2 l0_2.length c0_2)) ∧ (w'.heap[gb169]? = some (.cells #[.int .i64 a0_0, .int .i64 a0_1, .slice A0_2 l0_2.length c0_2] 24 (0, 0))) ∧ (w'.heap[gb170]? = some (.cells #[.int .i64 0, .int .i64 0] 103 (0, 0))) ∧ (w'.heap[s_.1]? = some (.cells #[.int .i64 0, .int .i64 0] 103 (0, 0))) ∧ (w'.heap[s_.2]? = some (.cells #[.int .i64 0, .int .i64 0] 103 (0, 0))) ∧ (w.heap.size ≤ s_.1) ∧ (w.heap.size ≤ s_.1) ∧ (gb169 ≠ s_.1) ∧ (s_.1 ≠ gb169) ∧ (gb170 ≠ s_.1) ∧ (s_.1 ≠ gb170) ∧ (s_.2 ≠ s_.1) ∧ (s_.1 ≠ s_.2) ∧ (w.heap.size ≤ s_.2) ∧ (w.heap.size ≤ s_.2) ∧ (gb169 ≠ s_.2) ∧ (s_.2 ≠ gb169) ∧ (gb170 ≠ s_.2) ∧ (s_.2 ≠ gb170) ∧ (Below w.heap.size w w')) ?_ ?_
        rotate_left
        ·
         intro hJ8_9
         refine join_ (σ := Unit) 5 #[true, true, true, true, true, true, true, false, false, false, false, false] (fun s_ => [(14, .agg #[.int .i64 t171, .int .i64 t172])]) (fun s_ w' => (w'.cell? ⟨gb169, 0, none⟩ = some (.int .i64 a0_0) ∧ w'.cell? ⟨gb169, 1, none⟩ = some (.int .i64 a0_1) ∧ w'.cell? ⟨gb169, 2, none⟩ = some (.slice A0_2 l0_2.length c0_2)) ∧ (w'.heap[gb169]? = some (.cells #[.int .i64 a0_0, .int .i64 a0_1, .slice A0_2 l0_2.length c0_2] 24 (0, 0))) ∧ (w'.heap[gb170]? = some (.cells #[.int .i64 0, .int .i64 0] 103 (0, 0))) ∧ (Below w.heap.size w w')) ?_ ?_
         rotate_left
         ·
          intro hJ3
          refine join_ (σ := Nat) 5 #[true, true, true, false, true, true, true, false, true, false, false, false] (fun s_ => [(9, .pointer (some ⟨s_, 0, none⟩))]) (fun s_ w' => (w'.cell? ⟨gb169, 0, none⟩ = some (.int .i64 a0_0) ∧ w'.cell? ⟨gb169, 1, none⟩ = some (.int .i64 a0_1) ∧ w'.cell? ⟨gb169, 2, none⟩ = some (.slice A0_2 l0_2.length c0_2)) ∧ (w'.heap[gb169]? = some (.cells #[.int .i64 a0_0, .int .i64 a0_1, .slice A0_2 l0_2.length c0_2] 24 (0, 0))) ∧ (w'.heap[gb170]? = some (.cells #[.int .i64 0, .int .i64 0] 103 (0, 0))) ∧ (w'.heap[s_]? = some (.cells #[.int .i64 0, .int .i64 0] 103 (0, 0))) ∧ (w.heap.size ≤ s_) ∧ (w.heap.size ≤ s_) ∧ (gb169 ≠ s_) ∧ (s_ ≠ gb169) ∧ (gb170 ≠ s_) ∧ (s_ ≠ gb170) ∧ (Below w.heap.size w w')) ?_ ?_
          rotate_left
          ·
           intro hJ8
           refine join_ (σ := Nat) 5 #[true, true, true, false, true, true, true, false, false, true, false, false] (fun s_ => [(10, .pointer (some ⟨s_, 0, none⟩))]) (fun s_ w' => (w'.cell? ⟨gb169, 0, none⟩ = some (.int .i64 a0_0) ∧ w'.cell? ⟨gb169, 1, none⟩ = some (.int .i64 a0_1) ∧ w'.cell? ⟨gb169, 2, none⟩ = some (.slice A0_2 l0_2.length c0_2)) ∧ (w'.heap[gb169]? = some (.cells #[.int .i64 a0_0, .int .i64 a0_1, .slice A0_2 l0_2.length c0_2] 24 (0, 0))) ∧ (w'.heap[gb170]? = some (.cells #[.int .i64 0, .int .i64 0] 103 (0, 0))) ∧ (w'.heap[s_]? = some (.cells #[.int .i64 0, .int .i64 0] 103 (0, 0))) ∧ (w.heap.size ≤ s_) ∧ (w.heap.size ≤ s_) ∧ (gb169 ≠ s_) ∧ (s_ ≠ gb169) ∧ (gb170 ≠ s_) ∧ (s_ ≠ gb170) ∧ (Below w.heap.size w w')) ?_ ?_
           rotate_left
           ·
            intro hJ9
            refine three_ (i := 3) (j := 8) (k := 9) (Ni := some 14) (Nj := some 9) (Nk := some 10) #[true, true, true, true, true, true, true, false, false, false, false, false] #[true, true, true, false, true, true, true, false, true, false, false, false] #[true, true, true, false, true, true, true, false, false, true, false, false] rfl rfl rfl rfl rfl rfl (three_of HT_.out (by kernel_rfl)) (by decide) (by decide) (by decide) (fun K hK => ?_) (fun K hK => ?_) (fun K hK => ?_)
            ·
             skip
             refine goesM Tryd.func77 (by kernel_rfl) rfl #[.agg #[.int .i64 a0_0, .int .i64 a0_1, .slice A0_2 l0_2.length c0_2], .int .i64 a1, .int .i64 a3] (by rfl) rfl rfl (by rfl) ?_
             with_reducible refine (course_drift.calls k a0_0 a0_1 _ _ l0_2 a1 a3 t171 t172 _ ?side1 ?side2 A5.out).mono ?_
             (case side1 => exact cP (Kd.C_below HR0_2.out HB.out))
             (case side2 => exact HC0_2.out)
             rintro e w13 ⟨rfl, hb⟩
             refine ⟨_, rfl, ?_⟩
             replace BK169 := kB gb169 hb
             replace BK170 := kB gb170 hb
             replace HB := bS w hb
             (try clear hb)
             refine hK.out _ _ ⟨bc BK169 0, bc BK169 1, bc BK169 2⟩ (fun hHeld => ?_)
             clear hK K
             refine norm_ (a' := ?_) ?_ ?_
             rotate_left
             ·
              show Act.put _ (some 14) _ = _
              simp only [Act.put, List.setIfInBounds_toArray, List.set_cons_zero, List.set_cons_succ, i64_w]
              rfl
             exact norm_ (by first | (simp only [putAll, Act.put, List.setIfInBounds_toArray, List.set_cons_zero, List.set_cons_succ]; done) | (simp only [putAll, Act.put, List.setIfInBounds_toArray, List.set_cons_zero, List.set_cons_succ]; rfl)) (hJ3 () _ ⟨hHeld, (bk _ gb169), (bk _ gb170), (bw w)⟩)
            ·
             skip
             refine box_step ?hg (N := 9) ?hd (cs := #[.int .i64 0, .int .i64 0]) (t := 103) ?hr ?_; (case hd => rfl); (case hg => rfl); (case hr => first | (go_simp; done) | (go_simp; rfl))
             intro gb175 hg w13 hbox hb
             have BK175 := Bk.mk (hbox)
             have GW175 := eB w hg
             have GE175 := eB w hg
             have NB169_175 := nB gb169 hg
             have NB175_169 := nB' gb169 hg
             have NB170_175 := nB gb170 hg
             have NB175_170 := nB' gb170 hg
             replace BK169 := kB gb169 hb
             replace BK170 := kB gb170 hb
             replace HB := bS w hb
             clear hb hbox hg
             refine hK.out _ _ ⟨bc BK169 0, bc BK169 1, bc BK169 2⟩ (fun hHeld => ?_)
             clear hK K
             refine norm_ (a' := ?_) ?_ ?_
             rotate_left
             ·
              show Act.put _ (some 9) _ = _
              simp only [Act.put, List.setIfInBounds_toArray, List.set_cons_zero, List.set_cons_succ, i64_w]
              rfl
             exact norm_ (by first | (simp only [putAll, Act.put, List.setIfInBounds_toArray, List.set_cons_zero, List.set_cons_succ]; done) | (simp only [putAll, Act.put, List.setIfInBounds_toArray, List.set_cons_zero, List.set_cons_succ]; rfl)) (hJ8 (gb175) _ ⟨hHeld, (bk _ gb169), (bk _ gb170), (bk _ gb175), GW175.out, GE175.out, NB169_175.out, NB175_169.out, NB170_175.out, NB175_170.out, (bw w)⟩)
            ·
             skip
             refine box_step ?hg (N := 10) ?hd (cs := #[.int .i64 0, .int .i64 0]) (t := 103) ?hr ?_; (case hd => rfl); (case hg => rfl); (case hr => first | (go_simp; done) | (go_simp; rfl))
             intro gb176 hg w13 hbox hb
             have BK176 := Bk.mk (hbox)
             have GW176 := eB w hg
             have GE176 := eB w hg
             have NB169_176 := nB gb169 hg
             have NB176_169 := nB' gb169 hg
             have NB170_176 := nB gb170 hg
             have NB176_170 := nB' gb170 hg
             replace BK169 := kB gb169 hb
             replace BK170 := kB gb170 hb
             replace HB := bS w hb
             clear hb hbox hg
             refine hK.out _ _ ⟨bc BK169 0, bc BK169 1, bc BK169 2⟩ (fun hHeld => ?_)
             clear hK K
             refine norm_ (a' := ?_) ?_ ?_
             rotate_left
             ·
              show Act.put _ (some 10) _ = _
              simp only [Act.put, List.setIfInBounds_toArray, List.set_cons_zero, List.set_cons_succ, i64_w]
              rfl
             exact norm_ (by first | (simp only [putAll, Act.put, List.setIfInBounds_toArray, List.set_cons_zero, List.set_cons_succ]; done) | (simp only [putAll, Act.put, List.setIfInBounds_toArray, List.set_cons_zero, List.set_cons_succ]; rfl)) (hJ9 (gb176) _ ⟨hHeld, (bk _ gb169), (bk _ gb170), (bk _ gb176), GW176.out, GE176.out, NB169_176.out, NB176_169.out, NB170_176.out, NB176_170.out, (bw w)⟩)
           ·
            skip
            rintro gb176 w14 ⟨hS_, h0_, h1_, h2_, h3_, h4_, h5_, h6_, h7_, h8_, h9_⟩
            have n0_ : Bk w14 gb169 (.cells #[.int .i64 a0_0, .int .i64 a0_1, .slice A0_2 l0_2.length c0_2] 24 (0, 0)) := ⟨h0_⟩
            have n1_ : Bk w14 gb170 (.cells #[.int .i64 0, .int .i64 0] 103 (0, 0)) := ⟨h1_⟩
            have n2_ : Bk w14 gb176 (.cells #[.int .i64 0, .int .i64 0] 103 (0, 0)) := ⟨h2_⟩
            have n3_ : Ge w gb176 := ⟨h3_⟩
            have n4_ : Ge w gb176 := ⟨h4_⟩
            have n5_ : Nb gb169 gb176 := ⟨h5_⟩
            have n6_ : Nb gb176 gb169 := ⟨h6_⟩
            have n7_ : Nb gb170 gb176 := ⟨h7_⟩
            have n8_ : Nb gb176 gb170 := ⟨h8_⟩
            have n9_ : Bw w w14 := ⟨h9_⟩
            clear BK169 BK170 HB h0_ h1_ h2_ h3_ h4_ h5_ h6_ h7_ h8_ h9_
            have BK169 := n0_
            have BK170 := n1_
            have BK176 := n2_
            have GW176 := n3_
            have GE176 := n4_
            have NB169_176 := n5_
            have NB176_169 := n6_
            have NB170_176 := n7_
            have NB176_170 := n8_
            have HB := n9_
            clear n0_ n1_ n2_ n3_ n4_ n5_ n6_ n7_ n8_ n9_
            have hHeld : w14.cell? ⟨gb169, 0, none⟩ = some (.int .i64 a0_0) ∧ w14.cell? ⟨gb169, 1, none⟩ = some (.int .i64 a0_1) ∧ w14.cell? ⟨gb169, 2, none⟩ = some (.slice A0_2 l0_2.length c0_2) := hS_
            refine norm_ (a' := ?_) ?_ ?_
            rotate_left
            ·
             simp only [putAll, Act.put, List.setIfInBounds_toArray, List.set_cons_zero, List.set_cons_succ]
             rfl
            refine two_ (i := 3) (j := 8) (Ni := some 14) (Nj := some 9) #[true, true, true, true, true, true, true, false, false, true, false, false] #[true, true, true, false, true, true, true, false, true, true, false, false] rfl rfl rfl rfl (two_of HT_.out (by kernel_rfl)) (by decide) (by decide) (fun K hK => ?_) (fun K hK => ?_)
            ·
             skip
             refine goesM Tryd.func77 (by kernel_rfl) rfl #[.agg #[.int .i64 a0_0, .int .i64 a0_1, .slice A0_2 l0_2.length c0_2], .int .i64 a1, .int .i64 a3] (by rfl) rfl rfl (by rfl) ?_
             with_reducible refine (course_drift.calls k a0_0 a0_1 _ _ l0_2 a1 a3 t171 t172 _ ?side1 ?side2 A5.out).mono ?_
             (case side1 => exact cP (Kd.C_below HR0_2.out HB.out))
             (case side2 => exact HC0_2.out)
             rintro e w15 ⟨rfl, hb⟩
             refine ⟨_, rfl, ?_⟩
             replace BK169 := kB gb169 hb
             replace BK170 := kB gb170 hb
             replace BK176 := kB gb176 hb
             replace HB := bS w hb
             (try clear hb)
             refine hK.out _ _ ⟨bc BK169 0, bc BK169 1, bc BK169 2⟩ (fun hHeld => ?_)
             clear hK K
             refine norm_ (a' := ?_) ?_ ?_
             rotate_left
             ·
              show Act.put _ (some 14) _ = _
              simp only [Act.put, List.setIfInBounds_toArray, List.set_cons_zero, List.set_cons_succ, i64_w]
              rfl
             exact norm_ (by first | (simp only [putAll, Act.put, List.setIfInBounds_toArray, List.set_cons_zero, List.set_cons_succ]; done) | (simp only [putAll, Act.put, List.setIfInBounds_toArray, List.set_cons_zero, List.set_cons_succ]; rfl)) (hJ3_9 (gb176) _ ⟨hHeld, (bk _ gb169), (bk _ gb170), (bk _ gb176), GW176.out, GE176.out, NB169_176.out, NB176_169.out, NB170_176.out, NB176_170.out, (bw w)⟩)
            ·
             skip
             refine box_step ?hg (N := 9) ?hd (cs := #[.int .i64 0, .int .i64 0]) (t := 103) ?hr ?_; (case hd => rfl); (case hg => rfl); (case hr => first | (go_simp; done) | (go_simp; rfl))
             intro gb175 hg w15 hbox hb
             have BK175 := Bk.mk (hbox)
             have GW175 := eB w hg
             have GE175 := eB w hg
             have NB169_175 := nB gb169 hg
             have NB175_169 := nB' gb169 hg
             have NB170_175 := nB gb170 hg
             have NB175_170 := nB' gb170 hg
             have NB176_175 := nB gb176 hg
             have NB175_176 := nB' gb176 hg
             replace BK169 := kB gb169 hb
             replace BK170 := kB gb170 hb
             replace BK176 := kB gb176 hb
             replace HB := bS w hb
             clear hb hbox hg
             refine hK.out _ _ ⟨bc BK169 0, bc BK169 1, bc BK169 2⟩ (fun hHeld => ?_)
             clear hK K
             refine norm_ (a' := ?_) ?_ ?_
             rotate_left
             ·
              show Act.put _ (some 9) _ = _
              simp only [Act.put, List.setIfInBounds_toArray, List.set_cons_zero, List.set_cons_succ, i64_w]
              rfl
             exact norm_ (by first | (simp only [putAll, Act.put, List.setIfInBounds_toArray, List.set_cons_zero, List.set_cons_succ]; done) | (simp only [putAll, Act.put, List.setIfInBounds_toArray, List.set_cons_zero, List.set_cons_succ]; rfl)) (hJ8_9 (gb175, gb176) _ ⟨hHeld, (bk _ gb169), (bk _ gb170), (bk _ gb175), (bk _ gb176), GW175.out, GE175.out, NB169_175.out, NB175_169.out, NB170_175.out, NB175_170.out, NB176_175.out, NB175_176.out, GW176.out, GE176.out, NB169_176.out, NB176_169.out, NB170_176.out, NB176_170.out, (bw w)⟩)
          ·
           skip
           rintro gb175 w14 ⟨hS_, h0_, h1_, h2_, h3_, h4_, h5_, h6_, h7_, h8_, h9_⟩
           have n0_ : Bk w14 gb169 (.cells #[.int .i64 a0_0, .int .i64 a0_1, .slice A0_2 l0_2.length c0_2] 24 (0, 0)) := ⟨h0_⟩
           have n1_ : Bk w14 gb170 (.cells #[.int .i64 0, .int .i64 0] 103 (0, 0)) := ⟨h1_⟩
           have n2_ : Bk w14 gb175 (.cells #[.int .i64 0, .int .i64 0] 103 (0, 0)) := ⟨h2_⟩
           have n3_ : Ge w gb175 := ⟨h3_⟩
           have n4_ : Ge w gb175 := ⟨h4_⟩
           have n5_ : Nb gb169 gb175 := ⟨h5_⟩
           have n6_ : Nb gb175 gb169 := ⟨h6_⟩
           have n7_ : Nb gb170 gb175 := ⟨h7_⟩
           have n8_ : Nb gb175 gb170 := ⟨h8_⟩
           have n9_ : Bw w w14 := ⟨h9_⟩
           clear BK169 BK170 HB h0_ h1_ h2_ h3_ h4_ h5_ h6_ h7_ h8_ h9_
           have BK169 := n0_
           have BK170 := n1_
           have BK175 := n2_
           have GW175 := n3_
           have GE175 := n4_
           have NB169_175 := n5_
           have NB175_169 := n6_
           have NB170_175 := n7_
           have NB175_170 := n8_
           have HB := n9_
           clear n0_ n1_ n2_ n3_ n4_ n5_ n6_ n7_ n8_ n9_
           have hHeld : w14.cell? ⟨gb169, 0, none⟩ = some (.int .i64 a0_0) ∧ w14.cell? ⟨gb169, 1, none⟩ = some (.int .i64 a0_1) ∧ w14.cell? ⟨gb169, 2, none⟩ = some (.slice A0_2 l0_2.length c0_2) := hS_
           refine norm_ (a' := ?_) ?_ ?_
           rotate_left
           ·
            simp only [putAll, Act.put, List.setIfInBounds_toArray, List.set_cons_zero, List.set_cons_succ]
            rfl
           refine two_ (i := 3) (j := 9) (Ni := some 14) (Nj := some 10) #[true, true, true, true, true, true, true, false, true, false, false, false] #[true, true, true, false, true, true, true, false, true, true, false, false] rfl rfl rfl rfl (two_of HT_.out (by kernel_rfl)) (by decide) (by decide) (fun K hK => ?_) (fun K hK => ?_)
           ·
            skip
            refine goesM Tryd.func77 (by kernel_rfl) rfl #[.agg #[.int .i64 a0_0, .int .i64 a0_1, .slice A0_2 l0_2.length c0_2], .int .i64 a1, .int .i64 a3] (by rfl) rfl rfl (by rfl) ?_
            with_reducible refine (course_drift.calls k a0_0 a0_1 _ _ l0_2 a1 a3 t171 t172 _ ?side1 ?side2 A5.out).mono ?_
            (case side1 => exact cP (Kd.C_below HR0_2.out HB.out))
            (case side2 => exact HC0_2.out)
            rintro e w15 ⟨rfl, hb⟩
            refine ⟨_, rfl, ?_⟩
            replace BK169 := kB gb169 hb
            replace BK170 := kB gb170 hb
            replace BK175 := kB gb175 hb
            replace HB := bS w hb
            (try clear hb)
            refine hK.out _ _ ⟨bc BK169 0, bc BK169 1, bc BK169 2⟩ (fun hHeld => ?_)
            clear hK K
            refine norm_ (a' := ?_) ?_ ?_
            rotate_left
            ·
             show Act.put _ (some 14) _ = _
             simp only [Act.put, List.setIfInBounds_toArray, List.set_cons_zero, List.set_cons_succ, i64_w]
             rfl
            exact norm_ (by first | (simp only [putAll, Act.put, List.setIfInBounds_toArray, List.set_cons_zero, List.set_cons_succ]; done) | (simp only [putAll, Act.put, List.setIfInBounds_toArray, List.set_cons_zero, List.set_cons_succ]; rfl)) (hJ3_8 (gb175) _ ⟨hHeld, (bk _ gb169), (bk _ gb170), (bk _ gb175), GW175.out, GE175.out, NB169_175.out, NB175_169.out, NB170_175.out, NB175_170.out, (bw w)⟩)
           ·
            skip
            refine box_step ?hg (N := 10) ?hd (cs := #[.int .i64 0, .int .i64 0]) (t := 103) ?hr ?_; (case hd => rfl); (case hg => rfl); (case hr => first | (go_simp; done) | (go_simp; rfl))
            intro gb176 hg w15 hbox hb
            have BK176 := Bk.mk (hbox)
            have GW176 := eB w hg
            have GE176 := eB w hg
            have NB169_176 := nB gb169 hg
            have NB176_169 := nB' gb169 hg
            have NB170_176 := nB gb170 hg
            have NB176_170 := nB' gb170 hg
            have NB175_176 := nB gb175 hg
            have NB176_175 := nB' gb175 hg
            replace BK169 := kB gb169 hb
            replace BK170 := kB gb170 hb
            replace BK175 := kB gb175 hb
            replace HB := bS w hb
            clear hb hbox hg
            refine hK.out _ _ ⟨bc BK169 0, bc BK169 1, bc BK169 2⟩ (fun hHeld => ?_)
            clear hK K
            refine norm_ (a' := ?_) ?_ ?_
            rotate_left
            ·
             show Act.put _ (some 10) _ = _
             simp only [Act.put, List.setIfInBounds_toArray, List.set_cons_zero, List.set_cons_succ, i64_w]
             rfl
            exact norm_ (by first | (simp only [putAll, Act.put, List.setIfInBounds_toArray, List.set_cons_zero, List.set_cons_succ]; done) | (simp only [putAll, Act.put, List.setIfInBounds_toArray, List.set_cons_zero, List.set_cons_succ]; rfl)) (hJ8_9 (gb175, gb176) _ ⟨hHeld, (bk _ gb169), (bk _ gb170), (bk _ gb175), (bk _ gb176), GW175.out, GE175.out, NB169_175.out, NB175_169.out, NB170_175.out, NB175_170.out, NB176_175.out, NB175_176.out, GW176.out, GE176.out, NB169_176.out, NB176_169.out, NB170_176.out, NB176_170.out, (bw w)⟩)
         ·
          skip
          rintro _ w14 ⟨hS_, h0_, h1_, h2_⟩
          have n0_ : Bk w14 gb169 (.cells #[.int .i64 a0_0, .int .i64 a0_1, .slice A0_2 l0_2.length c0_2] 24 (0, 0)) := ⟨h0_⟩
          have n1_ : Bk w14 gb170 (.cells #[.int .i64 0, .int .i64 0] 103 (0, 0)) := ⟨h1_⟩
          have n2_ : Bw w w14 := ⟨h2_⟩
          clear BK169 BK170 HB h0_ h1_ h2_
          have BK169 := n0_
          have BK170 := n1_
          have HB := n2_
          clear n0_ n1_ n2_
          have hHeld : w14.cell? ⟨gb169, 0, none⟩ = some (.int .i64 a0_0) ∧ w14.cell? ⟨gb169, 1, none⟩ = some (.int .i64 a0_1) ∧ w14.cell? ⟨gb169, 2, none⟩ = some (.slice A0_2 l0_2.length c0_2) := hS_
          refine norm_ (a' := ?_) ?_ ?_
          rotate_left
          ·
           simp only [putAll, Act.put, List.setIfInBounds_toArray, List.set_cons_zero, List.set_cons_succ]
           rfl
          refine three_ (i := 7) (j := 8) (k := 9) (Ni := some 18) (Nj := some 9) (Nk := some 10) #[true, true, true, true, true, true, true, true, false, false, false, false] #[true, true, true, true, true, true, true, false, true, false, false, false] #[true, true, true, true, true, true, true, false, false, true, false, false] rfl rfl rfl rfl rfl rfl (three_of HT_.out (by kernel_rfl)) (by decide) (by decide) (by decide) (fun K hK => ?_) (fun K hK => ?_) (fun K hK => ?_)
          ·
           skip
           refine goesM Tryd.func77 (by kernel_rfl) rfl #[.agg #[.int .i64 a0_0, .int .i64 a0_1, .slice A0_2 l0_2.length c0_2], .int .i64 a2, .int .i64 a3] (by rfl) rfl rfl (by rfl) ?_
           with_reducible refine (course_drift.calls k a0_0 a0_1 _ _ l0_2 a2 a3 t173 t174 _ ?side1 ?side2 A6.out).mono ?_
           (case side1 => exact cP (Kd.C_below HR0_2.out HB.out))
           (case side2 => exact HC0_2.out)
           rintro e w15 ⟨rfl, hb⟩
           refine ⟨_, rfl, ?_⟩
           replace BK169 := kB gb169 hb
           replace BK170 := kB gb170 hb
           replace HB := bS w hb
           (try clear hb)
           refine hK.out _ _ ⟨bc BK169 0, bc BK169 1, bc BK169 2⟩ (fun hHeld => ?_)
           clear hK K
           refine norm_ (a' := ?_) ?_ ?_
           rotate_left
           ·
            show Act.put _ (some 18) _ = _
            simp only [Act.put, List.setIfInBounds_toArray, List.set_cons_zero, List.set_cons_succ, i64_w]
            rfl
           exact norm_ (by first | (simp only [putAll, Act.put, List.setIfInBounds_toArray, List.set_cons_zero, List.set_cons_succ]; done) | (simp only [putAll, Act.put, List.setIfInBounds_toArray, List.set_cons_zero, List.set_cons_succ]; rfl)) (hJ3_7 () _ ⟨hHeld, (bk _ gb169), (bk _ gb170), (bw w)⟩)
          ·
           skip
           refine box_step ?hg (N := 9) ?hd (cs := #[.int .i64 0, .int .i64 0]) (t := 103) ?hr ?_; (case hd => rfl); (case hg => rfl); (case hr => first | (go_simp; done) | (go_simp; rfl))
           intro gb175 hg w15 hbox hb
           have BK175 := Bk.mk (hbox)
           have GW175 := eB w hg
           have GE175 := eB w hg
           have NB169_175 := nB gb169 hg
           have NB175_169 := nB' gb169 hg
           have NB170_175 := nB gb170 hg
           have NB175_170 := nB' gb170 hg
           replace BK169 := kB gb169 hb
           replace BK170 := kB gb170 hb
           replace HB := bS w hb
           clear hb hbox hg
           refine hK.out _ _ ⟨bc BK169 0, bc BK169 1, bc BK169 2⟩ (fun hHeld => ?_)
           clear hK K
           refine norm_ (a' := ?_) ?_ ?_
           rotate_left
           ·
            show Act.put _ (some 9) _ = _
            simp only [Act.put, List.setIfInBounds_toArray, List.set_cons_zero, List.set_cons_succ, i64_w]
            rfl
           exact norm_ (by first | (simp only [putAll, Act.put, List.setIfInBounds_toArray, List.set_cons_zero, List.set_cons_succ]; done) | (simp only [putAll, Act.put, List.setIfInBounds_toArray, List.set_cons_zero, List.set_cons_succ]; rfl)) (hJ3_8 (gb175) _ ⟨hHeld, (bk _ gb169), (bk _ gb170), (bk _ gb175), GW175.out, GE175.out, NB169_175.out, NB175_169.out, NB170_175.out, NB175_170.out, (bw w)⟩)
          ·
           skip
           refine box_step ?hg (N := 10) ?hd (cs := #[.int .i64 0, .int .i64 0]) (t := 103) ?hr ?_; (case hd => rfl); (case hg => rfl); (case hr => first | (go_simp; done) | (go_simp; rfl))
           intro gb176 hg w15 hbox hb
           have BK176 := Bk.mk (hbox)
           have GW176 := eB w hg
           have GE176 := eB w hg
           have NB169_176 := nB gb169 hg
           have NB176_169 := nB' gb169 hg
           have NB170_176 := nB gb170 hg
           have NB176_170 := nB' gb170 hg
           replace BK169 := kB gb169 hb
           replace BK170 := kB gb170 hb
           replace HB := bS w hb
           clear hb hbox hg
           refine hK.out _ _ ⟨bc BK169 0, bc BK169 1, bc BK169 2⟩ (fun hHeld => ?_)
           clear hK K
           refine norm_ (a' := ?_) ?_ ?_
           rotate_left
           ·
            show Act.put _ (some 10) _ = _
            simp only [Act.put, List.setIfInBounds_toArray, List.set_cons_zero, List.set_cons_succ, i64_w]
            rfl
           exact norm_ (by first | (simp only [putAll, Act.put, List.setIfInBounds_toArray, List.set_cons_zero, List.set_cons_succ]; done) | (simp only [putAll, Act.put, List.setIfInBounds_toArray, List.set_cons_zero, List.set_cons_succ]; rfl)) (hJ3_9 (gb176) _ ⟨hHeld, (bk _ gb169), (bk _ gb170), (bk _ gb176), GW176.out, GE176.out, NB169_176.out, NB176_169.out, NB170_176.out, NB176_170.out, (bw w)⟩)
        ·
         skip
         rintro ⟨gb175, gb176⟩ w15 ⟨hS_, h0_, h1_, h2_, h3_, h4_, h5_, h6_, h7_, h8_, h9_, h10_, h11_, h12_, h13_, h14_, h15_, h16_, h17_, h18_⟩
         have n0_ : Bk w15 gb169 (.cells #[.int .i64 a0_0, .int .i64 a0_1, .slice A0_2 l0_2.length c0_2] 24 (0, 0)) := ⟨h0_⟩
         have n1_ : Bk w15 gb170 (.cells #[.int .i64 0, .int .i64 0] 103 (0, 0)) := ⟨h1_⟩
         have n2_ : Bk w15 gb175 (.cells #[.int .i64 0, .int .i64 0] 103 (0, 0)) := ⟨h2_⟩
         have n3_ : Bk w15 gb176 (.cells #[.int .i64 0, .int .i64 0] 103 (0, 0)) := ⟨h3_⟩
         have n4_ : Ge w gb175 := ⟨h4_⟩
         have n5_ : Ge w gb175 := ⟨h5_⟩
         have n6_ : Nb gb169 gb175 := ⟨h6_⟩
         have n7_ : Nb gb175 gb169 := ⟨h7_⟩
         have n8_ : Nb gb170 gb175 := ⟨h8_⟩
         have n9_ : Nb gb175 gb170 := ⟨h9_⟩
         have n10_ : Nb gb176 gb175 := ⟨h10_⟩
         have n11_ : Nb gb175 gb176 := ⟨h11_⟩
         have n12_ : Ge w gb176 := ⟨h12_⟩
         have n13_ : Ge w gb176 := ⟨h13_⟩
         have n14_ : Nb gb169 gb176 := ⟨h14_⟩
         have n15_ : Nb gb176 gb169 := ⟨h15_⟩
         have n16_ : Nb gb170 gb176 := ⟨h16_⟩
         have n17_ : Nb gb176 gb170 := ⟨h17_⟩
         have n18_ : Bw w w15 := ⟨h18_⟩
         clear BK169 BK170 HB h0_ h1_ h2_ h3_ h4_ h5_ h6_ h7_ h8_ h9_ h10_ h11_ h12_ h13_ h14_ h15_ h16_ h17_ h18_
         have BK169 := n0_
         have BK170 := n1_
         have BK175 := n2_
         have BK176 := n3_
         have GW175 := n4_
         have GE175 := n5_
         have NB169_175 := n6_
         have NB175_169 := n7_
         have NB170_175 := n8_
         have NB175_170 := n9_
         have NB176_175 := n10_
         have NB175_176 := n11_
         have GW176 := n12_
         have GE176 := n13_
         have NB169_176 := n14_
         have NB176_169 := n15_
         have NB170_176 := n16_
         have NB176_170 := n17_
         have HB := n18_
         clear n0_ n1_ n2_ n3_ n4_ n5_ n6_ n7_ n8_ n9_ n10_ n11_ n12_ n13_ n14_ n15_ n16_ n17_ n18_
         have hHeld : w15.cell? ⟨gb169, 0, none⟩ = some (.int .i64 a0_0) ∧ w15.cell? ⟨gb169, 1, none⟩ = some (.int .i64 a0_1) ∧ w15.cell? ⟨gb169, 2, none⟩ = some (.slice A0_2 l0_2.length c0_2) := hS_
         refine norm_ (a' := ?_) ?_ ?_
         rotate_left
         ·
          simp only [putAll, Act.put, List.setIfInBounds_toArray, List.set_cons_zero, List.set_cons_succ]
          rfl
         refine one_ (i := 3) (N := some 14) #[true, true, true, true, true, true, true, false, true, true, false, false] rfl rfl (one_of HT_.out (by kernel_rfl)) (by decide) (fun K hK => ?_)
         refine goesM Tryd.func77 (by kernel_rfl) rfl #[.agg #[.int .i64 a0_0, .int .i64 a0_1, .slice A0_2 l0_2.length c0_2], .int .i64 a1, .int .i64 a3] (by rfl) rfl rfl (by rfl) ?_
         with_reducible refine (course_drift.calls k a0_0 a0_1 _ _ l0_2 a1 a3 t171 t172 _ ?side1 ?side2 A5.out).mono ?_
         (case side1 => exact cP (Kd.C_below HR0_2.out HB.out))
         (case side2 => exact HC0_2.out)
         rintro e w16 ⟨rfl, hb⟩
         refine ⟨_, rfl, ?_⟩
         replace BK169 := kB gb169 hb
         replace BK170 := kB gb170 hb
         replace BK175 := kB gb175 hb
         replace BK176 := kB gb176 hb
         replace HB := bS w hb
         (try clear hb)
         refine hK.out _ _ ⟨bc BK169 0, bc BK169 1, bc BK169 2⟩ (fun hHeld => ?_)
         clear hK K
         refine norm_ (a' := ?_) ?_ ?_
         rotate_left
         ·
          show Act.put _ (some 14) _ = _
          simp only [Act.put, List.setIfInBounds_toArray, List.set_cons_zero, List.set_cons_succ, i64_w]
          rfl
         exact norm_ (by first | (simp only [putAll, Act.put, List.setIfInBounds_toArray, List.set_cons_zero, List.set_cons_succ]; done) | (simp only [putAll, Act.put, List.setIfInBounds_toArray, List.set_cons_zero, List.set_cons_succ]; rfl)) (hJ3_8_9 (gb175, gb176) _ ⟨hHeld, (bk _ gb169), (bk _ gb170), (bk _ gb175), (bk _ gb176), GW175.out, GE175.out, NB169_175.out, NB175_169.out, NB170_175.out, NB175_170.out, NB176_175.out, NB175_176.out, GW176.out, GE176.out, NB169_176.out, NB176_169.out, NB170_176.out, NB176_170.out, (bw w)⟩)
       ·
        skip
        rintro gb176 w15 ⟨hS_, h0_, h1_, h2_, h3_, h4_, h5_, h6_, h7_, h8_, h9_⟩
        have n0_ : Bk w15 gb169 (.cells #[.int .i64 a0_0, .int .i64 a0_1, .slice A0_2 l0_2.length c0_2] 24 (0, 0)) := ⟨h0_⟩
        have n1_ : Bk w15 gb170 (.cells #[.int .i64 0, .int .i64 0] 103 (0, 0)) := ⟨h1_⟩
        have n2_ : Bk w15 gb176 (.cells #[.int .i64 0, .int .i64 0] 103 (0, 0)) := ⟨h2_⟩
        have n3_ : Ge w gb176 := ⟨h3_⟩
        have n4_ : Ge w gb176 := ⟨h4_⟩
        have n5_ : Nb gb169 gb176 := ⟨h5_⟩
        have n6_ : Nb gb176 gb169 := ⟨h6_⟩
        have n7_ : Nb gb170 gb176 := ⟨h7_⟩
        have n8_ : Nb gb176 gb170 := ⟨h8_⟩
        have n9_ : Bw w w15 := ⟨h9_⟩
        clear BK169 BK170 HB h0_ h1_ h2_ h3_ h4_ h5_ h6_ h7_ h8_ h9_
        have BK169 := n0_
        have BK170 := n1_
        have BK176 := n2_
        have GW176 := n3_
        have GE176 := n4_
        have NB169_176 := n5_
        have NB176_169 := n6_
        have NB170_176 := n7_
        have NB176_170 := n8_
        have HB := n9_
        clear n0_ n1_ n2_ n3_ n4_ n5_ n6_ n7_ n8_ n9_
        have hHeld : w15.cell? ⟨gb169, 0, none⟩ = some (.int .i64 a0_0) ∧ w15.cell? ⟨gb169, 1, none⟩ = some (.int .i64 a0_1) ∧ w15.cell? ⟨gb169, 2, none⟩ = some (.slice A0_2 l0_2.length c0_2) := hS_
        refine norm_ (a' := ?_) ?_ ?_
        rotate_left
        ·
         simp only [putAll, Act.put, List.setIfInBounds_toArray, List.set_cons_zero, List.set_cons_succ]
         rfl
        refine two_ (i := 7) (j := 8) (Ni := some 18) (Nj := some 9) #[true, true, true, true, true, true, true, true, false, true, false, false] #[true, true, true, true, true, true, true, false, true, true, false, false] rfl rfl rfl rfl (two_of HT_.out (by kernel_rfl)) (by decide) (by decide) (fun K hK => ?_) (fun K hK => ?_)
        ·
         skip
         refine goesM Tryd.func77 (by kernel_rfl) rfl #[.agg #[.int .i64 a0_0, .int .i64 a0_1, .slice A0_2 l0_2.length c0_2], .int .i64 a2, .int .i64 a3] (by rfl) rfl rfl (by rfl) ?_
         with_reducible refine (course_drift.calls k a0_0 a0_1 _ _ l0_2 a2 a3 t173 t174 _ ?side1 ?side2 A6.out).mono ?_
         (case side1 => exact cP (Kd.C_below HR0_2.out HB.out))
         (case side2 => exact HC0_2.out)
         rintro e w16 ⟨rfl, hb⟩
         refine ⟨_, rfl, ?_⟩
         replace BK169 := kB gb169 hb
         replace BK170 := kB gb170 hb
         replace BK176 := kB gb176 hb
         replace HB := bS w hb
         (try clear hb)
         refine hK.out _ _ ⟨bc BK169 0, bc BK169 1, bc BK169 2⟩ (fun hHeld => ?_)
         clear hK K
         refine norm_ (a' := ?_) ?_ ?_
         rotate_left
         ·
          show Act.put _ (some 18) _ = _
          simp only [Act.put, List.setIfInBounds_toArray, List.set_cons_zero, List.set_cons_succ, i64_w]
          rfl
         exact norm_ (by first | (simp only [putAll, Act.put, List.setIfInBounds_toArray, List.set_cons_zero, List.set_cons_succ]; done) | (simp only [putAll, Act.put, List.setIfInBounds_toArray, List.set_cons_zero, List.set_cons_succ]; rfl)) (hJ3_7_9 (gb176) _ ⟨hHeld, (bk _ gb169), (bk _ gb170), (bk _ gb176), GW176.out, GE176.out, NB169_176.out, NB176_169.out, NB170_176.out, NB176_170.out, (bw w)⟩)
        ·
         skip
         refine box_step ?hg (N := 9) ?hd (cs := #[.int .i64 0, .int .i64 0]) (t := 103) ?hr ?_; (case hd => rfl); (case hg => rfl); (case hr => first | (go_simp; done) | (go_simp; rfl))
         intro gb175 hg w16 hbox hb
         have BK175 := Bk.mk (hbox)
         have GW175 := eB w hg
         have GE175 := eB w hg
         have NB169_175 := nB gb169 hg
         have NB175_169 := nB' gb169 hg
         have NB170_175 := nB gb170 hg
         have NB175_170 := nB' gb170 hg
         have NB176_175 := nB gb176 hg
         have NB175_176 := nB' gb176 hg
         replace BK169 := kB gb169 hb
         replace BK170 := kB gb170 hb
         replace BK176 := kB gb176 hb
         replace HB := bS w hb
         clear hb hbox hg
         refine hK.out _ _ ⟨bc BK169 0, bc BK169 1, bc BK169 2⟩ (fun hHeld => ?_)
         clear hK K
         refine norm_ (a' := ?_) ?_ ?_
         rotate_left
         ·
          show Act.put _ (some 9) _ = _
          simp only [Act.put, List.setIfInBounds_toArray, List.set_cons_zero, List.set_cons_succ, i64_w]
          rfl
         exact norm_ (by first | (simp only [putAll, Act.put, List.setIfInBounds_toArray, List.set_cons_zero, List.set_cons_succ]; done) | (simp only [putAll, Act.put, List.setIfInBounds_toArray, List.set_cons_zero, List.set_cons_succ]; rfl)) (hJ3_8_9 (gb175, gb176) _ ⟨hHeld, (bk _ gb169), (bk _ gb170), (bk _ gb175), (bk _ gb176), GW175.out, GE175.out, NB169_175.out, NB175_169.out, NB170_175.out, NB175_170.out, NB176_175.out, NB175_176.out, GW176.out, GE176.out, NB169_176.out, NB176_169.out, NB170_176.out, NB176_170.out, (bw w)⟩)
      ·
       skip
       rintro gb175 w15 ⟨hS_, h0_, h1_, h2_, h3_, h4_, h5_, h6_, h7_, h8_, h9_⟩
       have n0_ : Bk w15 gb169 (.cells #[.int .i64 a0_0, .int .i64 a0_1, .slice A0_2 l0_2.length c0_2] 24 (0, 0)) := ⟨h0_⟩
       have n1_ : Bk w15 gb170 (.cells #[.int .i64 0, .int .i64 0] 103 (0, 0)) := ⟨h1_⟩
       have n2_ : Bk w15 gb175 (.cells #[.int .i64 0, .int .i64 0] 103 (0, 0)) := ⟨h2_⟩
       have n3_ : Ge w gb175 := ⟨h3_⟩
       have n4_ : Ge w gb175 := ⟨h4_⟩
       have n5_ : Nb gb169 gb175 := ⟨h5_⟩
       have n6_ : Nb gb175 gb169 := ⟨h6_⟩
       have n7_ : Nb gb170 gb175 := ⟨h7_⟩
       have n8_ : Nb gb175 gb170 := ⟨h8_⟩
       have n9_ : Bw w w15 := ⟨h9_⟩
       clear BK169 BK170 HB h0_ h1_ h2_ h3_ h4_ h5_ h6_ h7_ h8_ h9_
       have BK169 := n0_
       have BK170 := n1_
       have BK175 := n2_
       have GW175 := n3_
       have GE175 := n4_
       have NB169_175 := n5_
       have NB175_169 := n6_
       have NB170_175 := n7_
       have NB175_170 := n8_
       have HB := n9_
       clear n0_ n1_ n2_ n3_ n4_ n5_ n6_ n7_ n8_ n9_
       have hHeld : w15.cell? ⟨gb169, 0, none⟩ = some (.int .i64 a0_0) ∧ w15.cell? ⟨gb169, 1, none⟩ = some (.int .i64 a0_1) ∧ w15.cell? ⟨gb169, 2, none⟩ = some (.slice A0_2 l0_2.length c0_2) := hS_
       refine norm_ (a' := ?_) ?_ ?_
       rotate_left
       ·
        simp only [putAll, Act.put, List.setIfInBounds_toArray, List.set_cons_zero, List.set_cons_succ]
        rfl
       refine two_ (i := 7) (j := 9) (Ni := some 18) (Nj := some 10) #[true, true, true, true, true, true, true, true, true, false, false, false] #[true, true, true, true, true, true, true, false, true, true, false, false] rfl rfl rfl rfl (two_of HT_.out (by kernel_rfl)) (by decide) (by decide) (fun K hK => ?_) (fun K hK => ?_)
       ·
        skip
        refine goesM Tryd.func77 (by kernel_rfl) rfl #[.agg #[.int .i64 a0_0, .int .i64 a0_1, .slice A0_2 l0_2.length c0_2], .int .i64 a2, .int .i64 a3] (by rfl) rfl rfl (by rfl) ?_
        with_reducible refine (course_drift.calls k a0_0 a0_1 _ _ l0_2 a2 a3 t173 t174 _ ?side1 ?side2 A6.out).mono ?_
        (case side1 => exact cP (Kd.C_below HR0_2.out HB.out))
        (case side2 => exact HC0_2.out)
        rintro e w16 ⟨rfl, hb⟩
        refine ⟨_, rfl, ?_⟩
        replace BK169 := kB gb169 hb
        replace BK170 := kB gb170 hb
        replace BK175 := kB gb175 hb
        replace HB := bS w hb
        (try clear hb)
        refine hK.out _ _ ⟨bc BK169 0, bc BK169 1, bc BK169 2⟩ (fun hHeld => ?_)
        clear hK K
        refine norm_ (a' := ?_) ?_ ?_
        rotate_left
        ·
         show Act.put _ (some 18) _ = _
         simp only [Act.put, List.setIfInBounds_toArray, List.set_cons_zero, List.set_cons_succ, i64_w]
         rfl
        exact norm_ (by first | (simp only [putAll, Act.put, List.setIfInBounds_toArray, List.set_cons_zero, List.set_cons_succ]; done) | (simp only [putAll, Act.put, List.setIfInBounds_toArray, List.set_cons_zero, List.set_cons_succ]; rfl)) (hJ3_7_8 (gb175) _ ⟨hHeld, (bk _ gb169), (bk _ gb170), (bk _ gb175), GW175.out, GE175.out, NB169_175.out, NB175_169.out, NB170_175.out, NB175_170.out, (bw w)⟩)
       ·
        skip
        refine box_step ?hg (N := 10) ?hd (cs := #[.int .i64 0, .int .i64 0]) (t := 103) ?hr ?_; (case hd => rfl); (case hg => rfl); (case hr => first | (go_simp; done) | (go_simp; rfl))
        intro gb176 hg w16 hbox hb
        have BK176 := Bk.mk (hbox)
        have GW176 := eB w hg
        have GE176 := eB w hg
        have NB169_176 := nB gb169 hg
        have NB176_169 := nB' gb169 hg
        have NB170_176 := nB gb170 hg
        have NB176_170 := nB' gb170 hg
        have NB175_176 := nB gb175 hg
        have NB176_175 := nB' gb175 hg
        replace BK169 := kB gb169 hb
        replace BK170 := kB gb170 hb
        replace BK175 := kB gb175 hb
        replace HB := bS w hb
        clear hb hbox hg
        refine hK.out _ _ ⟨bc BK169 0, bc BK169 1, bc BK169 2⟩ (fun hHeld => ?_)
        clear hK K
        refine norm_ (a' := ?_) ?_ ?_
        rotate_left
        ·
         show Act.put _ (some 10) _ = _
         simp only [Act.put, List.setIfInBounds_toArray, List.set_cons_zero, List.set_cons_succ, i64_w]
         rfl
        exact norm_ (by first | (simp only [putAll, Act.put, List.setIfInBounds_toArray, List.set_cons_zero, List.set_cons_succ]; done) | (simp only [putAll, Act.put, List.setIfInBounds_toArray, List.set_cons_zero, List.set_cons_succ]; rfl)) (hJ3_8_9 (gb175, gb176) _ ⟨hHeld, (bk _ gb169), (bk _ gb170), (bk _ gb175), (bk _ gb176), GW175.out, GE175.out, NB169_175.out, NB175_169.out, NB170_175.out, NB175_170.out, NB176_175.out, NB175_176.out, GW176.out, GE176.out, NB169_176.out, NB176_169.out, NB170_176.out, NB176_170.out, (bw w)⟩)
     ·
      skip
      rintro _ w15 ⟨hS_, h0_, h1_, h2_⟩
      have n0_ : Bk w15 gb169 (.cells #[.int .i64 a0_0, .int .i64 a0_1, .slice A0_2 l0_2.length c0_2] 24 (0, 0)) := ⟨h0_⟩
      have n1_ : Bk w15 gb170 (.cells #[.int .i64 0, .int .i64 0] 103 (0, 0)) := ⟨h1_⟩
      have n2_ : Bw w w15 := ⟨h2_⟩
      clear BK169 BK170 HB h0_ h1_ h2_
      have BK169 := n0_
      have BK170 := n1_
      have HB := n2_
      clear n0_ n1_ n2_
      have hHeld : w15.cell? ⟨gb169, 0, none⟩ = some (.int .i64 a0_0) ∧ w15.cell? ⟨gb169, 1, none⟩ = some (.int .i64 a0_1) ∧ w15.cell? ⟨gb169, 2, none⟩ = some (.slice A0_2 l0_2.length c0_2) := hS_
      refine norm_ (a' := ?_) ?_ ?_
      rotate_left
      ·
       simp only [putAll, Act.put, List.setIfInBounds_toArray, List.set_cons_zero, List.set_cons_succ]
       rfl
      refine two_ (i := 8) (j := 9) (Ni := some 9) (Nj := some 10) #[true, true, true, true, true, true, true, true, true, false, false, false] #[true, true, true, true, true, true, true, true, false, true, false, false] rfl rfl rfl rfl (two_of HT_.out (by kernel_rfl)) (by decide) (by decide) (fun K hK => ?_) (fun K hK => ?_)
      ·
       skip
       refine box_step ?hg (N := 9) ?hd (cs := #[.int .i64 0, .int .i64 0]) (t := 103) ?hr ?_; (case hd => rfl); (case hg => rfl); (case hr => first | (go_simp; done) | (go_simp; rfl))
       intro gb175 hg w16 hbox hb
       have BK175 := Bk.mk (hbox)
       have GW175 := eB w hg
       have GE175 := eB w hg
       have NB169_175 := nB gb169 hg
       have NB175_169 := nB' gb169 hg
       have NB170_175 := nB gb170 hg
       have NB175_170 := nB' gb170 hg
       replace BK169 := kB gb169 hb
       replace BK170 := kB gb170 hb
       replace HB := bS w hb
       clear hb hbox hg
       refine hK.out _ _ ⟨bc BK169 0, bc BK169 1, bc BK169 2⟩ (fun hHeld => ?_)
       clear hK K
       refine norm_ (a' := ?_) ?_ ?_
       rotate_left
       ·
        show Act.put _ (some 9) _ = _
        simp only [Act.put, List.setIfInBounds_toArray, List.set_cons_zero, List.set_cons_succ, i64_w]
        rfl
       exact norm_ (by first | (simp only [putAll, Act.put, List.setIfInBounds_toArray, List.set_cons_zero, List.set_cons_succ]; done) | (simp only [putAll, Act.put, List.setIfInBounds_toArray, List.set_cons_zero, List.set_cons_succ]; rfl)) (hJ3_7_8 (gb175) _ ⟨hHeld, (bk _ gb169), (bk _ gb170), (bk _ gb175), GW175.out, GE175.out, NB169_175.out, NB175_169.out, NB170_175.out, NB175_170.out, (bw w)⟩)
      ·
       skip
       refine box_step ?hg (N := 10) ?hd (cs := #[.int .i64 0, .int .i64 0]) (t := 103) ?hr ?_; (case hd => rfl); (case hg => rfl); (case hr => first | (go_simp; done) | (go_simp; rfl))
       intro gb176 hg w16 hbox hb
       have BK176 := Bk.mk (hbox)
       have GW176 := eB w hg
       have GE176 := eB w hg
       have NB169_176 := nB gb169 hg
       have NB176_169 := nB' gb169 hg
       have NB170_176 := nB gb170 hg
       have NB176_170 := nB' gb170 hg
       replace BK169 := kB gb169 hb
       replace BK170 := kB gb170 hb
       replace HB := bS w hb
       clear hb hbox hg
       refine hK.out _ _ ⟨bc BK169 0, bc BK169 1, bc BK169 2⟩ (fun hHeld => ?_)
       clear hK K
       refine norm_ (a' := ?_) ?_ ?_
       rotate_left
       ·
        show Act.put _ (some 10) _ = _
        simp only [Act.put, List.setIfInBounds_toArray, List.set_cons_zero, List.set_cons_succ, i64_w]
        rfl
       exact norm_ (by first | (simp only [putAll, Act.put, List.setIfInBounds_toArray, List.set_cons_zero, List.set_cons_succ]; done) | (simp only [putAll, Act.put, List.setIfInBounds_toArray, List.set_cons_zero, List.set_cons_succ]; rfl)) (hJ3_7_9 (gb176) _ ⟨hHeld, (bk _ gb169), (bk _ gb170), (bk _ gb176), GW176.out, GE176.out, NB169_176.out, NB176_169.out, NB170_176.out, NB176_170.out, (bw w)⟩)
    ·
     skip
     rintro ⟨gb175, gb176⟩ w16 ⟨hS_, h0_, h1_, h2_, h3_, h4_, h5_, h6_, h7_, h8_, h9_, h10_, h11_, h12_, h13_, h14_, h15_, h16_, h17_, h18_⟩
     have n0_ : Bk w16 gb169 (.cells #[.int .i64 a0_0, .int .i64 a0_1, .slice A0_2 l0_2.length c0_2] 24 (0, 0)) := ⟨h0_⟩
     have n1_ : Bk w16 gb170 (.cells #[.int .i64 0, .int .i64 0] 103 (0, 0)) := ⟨h1_⟩
     have n2_ : Bk w16 gb175 (.cells #[.int .i64 0, .int .i64 0] 103 (0, 0)) := ⟨h2_⟩
     have n3_ : Bk w16 gb176 (.cells #[.int .i64 0, .int .i64 0] 103 (0, 0)) := ⟨h3_⟩
     have n4_ : Ge w gb175 := ⟨h4_⟩
     have n5_ : Ge w gb175 := ⟨h5_⟩
     have n6_ : Nb gb169 gb175 := ⟨h6_⟩
     have n7_ : Nb gb175 gb169 := ⟨h7_⟩
     have n8_ : Nb gb170 gb175 := ⟨h8_⟩
     have n9_ : Nb gb175 gb170 := ⟨h9_⟩
     have n10_ : Nb gb176 gb175 := ⟨h10_⟩
     have n11_ : Nb gb175 gb176 := ⟨h11_⟩
     have n12_ : Ge w gb176 := ⟨h12_⟩
     have n13_ : Ge w gb176 := ⟨h13_⟩
     have n14_ : Nb gb169 gb176 := ⟨h14_⟩
     have n15_ : Nb gb176 gb169 := ⟨h15_⟩
     have n16_ : Nb gb170 gb176 := ⟨h16_⟩
     have n17_ : Nb gb176 gb170 := ⟨h17_⟩
     have n18_ : Bw w w16 := ⟨h18_⟩
     clear BK169 BK170 HB h0_ h1_ h2_ h3_ h4_ h5_ h6_ h7_ h8_ h9_ h10_ h11_ h12_ h13_ h14_ h15_ h16_ h17_ h18_
     have BK169 := n0_
     have BK170 := n1_
     have BK175 := n2_
     have BK176 := n3_
     have GW175 := n4_
     have GE175 := n5_
     have NB169_175 := n6_
     have NB175_169 := n7_
     have NB170_175 := n8_
     have NB175_170 := n9_
     have NB176_175 := n10_
     have NB175_176 := n11_
     have GW176 := n12_
     have GE176 := n13_
     have NB169_176 := n14_
     have NB176_169 := n15_
     have NB170_176 := n16_
     have NB176_170 := n17_
     have HB := n18_
     clear n0_ n1_ n2_ n3_ n4_ n5_ n6_ n7_ n8_ n9_ n10_ n11_ n12_ n13_ n14_ n15_ n16_ n17_ n18_
     have hHeld : w16.cell? ⟨gb169, 0, none⟩ = some (.int .i64 a0_0) ∧ w16.cell? ⟨gb169, 1, none⟩ = some (.int .i64 a0_1) ∧ w16.cell? ⟨gb169, 2, none⟩ = some (.slice A0_2 l0_2.length c0_2) := hS_
     refine norm_ (a' := ?_) ?_ ?_
     rotate_left
     ·
      simp only [putAll, Act.put, List.setIfInBounds_toArray, List.set_cons_zero, List.set_cons_succ]
      rfl
     refine one_ (i := 7) (N := some 18) #[true, true, true, true, true, true, true, true, true, true, false, false] rfl rfl (one_of HT_.out (by kernel_rfl)) (by decide) (fun K hK => ?_)
     refine goesM Tryd.func77 (by kernel_rfl) rfl #[.agg #[.int .i64 a0_0, .int .i64 a0_1, .slice A0_2 l0_2.length c0_2], .int .i64 a2, .int .i64 a3] (by rfl) rfl rfl (by rfl) ?_
     with_reducible refine (course_drift.calls k a0_0 a0_1 _ _ l0_2 a2 a3 t173 t174 _ ?side1 ?side2 A6.out).mono ?_
     (case side1 => exact cP (Kd.C_below HR0_2.out HB.out))
     (case side2 => exact HC0_2.out)
     rintro e w17 ⟨rfl, hb⟩
     refine ⟨_, rfl, ?_⟩
     replace BK169 := kB gb169 hb
     replace BK170 := kB gb170 hb
     replace BK175 := kB gb175 hb
     replace BK176 := kB gb176 hb
     replace HB := bS w hb
     (try clear hb)
     refine hK.out _ _ ⟨bc BK169 0, bc BK169 1, bc BK169 2⟩ (fun hHeld => ?_)
     clear hK K
     refine norm_ (a' := ?_) ?_ ?_
     rotate_left
     ·
      show Act.put _ (some 18) _ = _
      simp only [Act.put, List.setIfInBounds_toArray, List.set_cons_zero, List.set_cons_succ, i64_w]
      rfl
     exact norm_ (by first | (simp only [putAll, Act.put, List.setIfInBounds_toArray, List.set_cons_zero, List.set_cons_succ]; done) | (simp only [putAll, Act.put, List.setIfInBounds_toArray, List.set_cons_zero, List.set_cons_succ]; rfl)) (hJ3_7_8_9 (gb175, gb176) _ ⟨hHeld, (bk _ gb169), (bk _ gb170), (bk _ gb175), (bk _ gb176), GW175.out, GE175.out, NB169_175.out, NB175_169.out, NB170_175.out, NB175_170.out, NB176_175.out, NB175_176.out, GW176.out, GE176.out, NB169_176.out, NB176_169.out, NB170_176.out, NB176_170.out, (bw w)⟩)
   ·
    skip
    rintro gb176 w16 ⟨hS_, h0_, h1_, h2_, h3_, h4_, h5_, h6_, h7_, h8_, h9_⟩
    have n0_ : Bk w16 gb169 (.cells #[.int .i64 a0_0, .int .i64 a0_1, .slice A0_2 l0_2.length c0_2] 24 (0, 0)) := ⟨h0_⟩
    have n1_ : Bk w16 gb170 (.cells #[.int .i64 0, .int .i64 0] 103 (0, 0)) := ⟨h1_⟩
    have n2_ : Bk w16 gb176 (.cells #[.int .i64 0, .int .i64 0] 103 (0, 0)) := ⟨h2_⟩
    have n3_ : Ge w gb176 := ⟨h3_⟩
    have n4_ : Ge w gb176 := ⟨h4_⟩
    have n5_ : Nb gb169 gb176 := ⟨h5_⟩
    have n6_ : Nb gb176 gb169 := ⟨h6_⟩
    have n7_ : Nb gb170 gb176 := ⟨h7_⟩
    have n8_ : Nb gb176 gb170 := ⟨h8_⟩
    have n9_ : Bw w w16 := ⟨h9_⟩
    clear BK169 BK170 HB h0_ h1_ h2_ h3_ h4_ h5_ h6_ h7_ h8_ h9_
    have BK169 := n0_
    have BK170 := n1_
    have BK176 := n2_
    have GW176 := n3_
    have GE176 := n4_
    have NB169_176 := n5_
    have NB176_169 := n6_
    have NB170_176 := n7_
    have NB176_170 := n8_
    have HB := n9_
    clear n0_ n1_ n2_ n3_ n4_ n5_ n6_ n7_ n8_ n9_
    have hHeld : w16.cell? ⟨gb169, 0, none⟩ = some (.int .i64 a0_0) ∧ w16.cell? ⟨gb169, 1, none⟩ = some (.int .i64 a0_1) ∧ w16.cell? ⟨gb169, 2, none⟩ = some (.slice A0_2 l0_2.length c0_2) := hS_
    refine norm_ (a' := ?_) ?_ ?_
    rotate_left
    ·
     simp only [putAll, Act.put, List.setIfInBounds_toArray, List.set_cons_zero, List.set_cons_succ]
     rfl
    refine one_ (i := 8) (N := some 9) #[true, true, true, true, true, true, true, true, true, true, false, false] rfl rfl (one_of HT_.out (by kernel_rfl)) (by decide) (fun K hK => ?_)
    refine box_step ?hg (N := 9) ?hd (cs := #[.int .i64 0, .int .i64 0]) (t := 103) ?hr ?_; (case hd => rfl); (case hg => rfl); (case hr => first | (go_simp; done) | (go_simp; rfl))
    intro gb175 hg w17 hbox hb
    have BK175 := Bk.mk (hbox)
    have GW175 := eB w hg
    have GE175 := eB w hg
    have NB169_175 := nB gb169 hg
    have NB175_169 := nB' gb169 hg
    have NB170_175 := nB gb170 hg
    have NB175_170 := nB' gb170 hg
    have NB176_175 := nB gb176 hg
    have NB175_176 := nB' gb176 hg
    replace BK169 := kB gb169 hb
    replace BK170 := kB gb170 hb
    replace BK176 := kB gb176 hb
    replace HB := bS w hb
    clear hb hbox hg
    refine hK.out _ _ ⟨bc BK169 0, bc BK169 1, bc BK169 2⟩ (fun hHeld => ?_)
    clear hK K
    refine norm_ (a' := ?_) ?_ ?_
    rotate_left
    ·
     show Act.put _ (some 9) _ = _
     simp only [Act.put, List.setIfInBounds_toArray, List.set_cons_zero, List.set_cons_succ, i64_w]
     rfl
    exact norm_ (by first | (simp only [putAll, Act.put, List.setIfInBounds_toArray, List.set_cons_zero, List.set_cons_succ]; done) | (simp only [putAll, Act.put, List.setIfInBounds_toArray, List.set_cons_zero, List.set_cons_succ]; rfl)) (hJ3_7_8_9 (gb175, gb176) _ ⟨hHeld, (bk _ gb169), (bk _ gb170), (bk _ gb175), (bk _ gb176), GW175.out, GE175.out, NB169_175.out, NB175_169.out, NB170_175.out, NB175_170.out, NB176_175.out, NB175_176.out, GW176.out, GE176.out, NB169_176.out, NB176_169.out, NB170_176.out, NB176_170.out, (bw w)⟩)
  ·
   skip
   rintro gb175 w16 ⟨hS_, h0_, h1_, h2_, h3_, h4_, h5_, h6_, h7_, h8_, h9_⟩
   have n0_ : Bk w16 gb169 (.cells #[.int .i64 a0_0, .int .i64 a0_1, .slice A0_2 l0_2.length c0_2] 24 (0, 0)) := ⟨h0_⟩
   have n1_ : Bk w16 gb170 (.cells #[.int .i64 0, .int .i64 0] 103 (0, 0)) := ⟨h1_⟩
   have n2_ : Bk w16 gb175 (.cells #[.int .i64 0, .int .i64 0] 103 (0, 0)) := ⟨h2_⟩
   have n3_ : Ge w gb175 := ⟨h3_⟩
   have n4_ : Ge w gb175 := ⟨h4_⟩
   have n5_ : Nb gb169 gb175 := ⟨h5_⟩
   have n6_ : Nb gb175 gb169 := ⟨h6_⟩
   have n7_ : Nb gb170 gb175 := ⟨h7_⟩
   have n8_ : Nb gb175 gb170 := ⟨h8_⟩
   have n9_ : Bw w w16 := ⟨h9_⟩
   clear BK169 BK170 HB h0_ h1_ h2_ h3_ h4_ h5_ h6_ h7_ h8_ h9_
   have BK169 := n0_
   have BK170 := n1_
   have BK175 := n2_
   have GW175 := n3_
   have GE175 := n4_
   have NB169_175 := n5_
   have NB175_169 := n6_
   have NB170_175 := n7_
   have NB175_170 := n8_
   have HB := n9_
   clear n0_ n1_ n2_ n3_ n4_ n5_ n6_ n7_ n8_ n9_
   have hHeld : w16.cell? ⟨gb169, 0, none⟩ = some (.int .i64 a0_0) ∧ w16.cell? ⟨gb169, 1, none⟩ = some (.int .i64 a0_1) ∧ w16.cell? ⟨gb169, 2, none⟩ = some (.slice A0_2 l0_2.length c0_2) := hS_
   refine norm_ (a' := ?_) ?_ ?_
   rotate_left
   ·
    simp only [putAll, Act.put, List.setIfInBounds_toArray, List.set_cons_zero, List.set_cons_succ]
    rfl
   refine one_ (i := 9) (N := some 10) #[true, true, true, true, true, true, true, true, true, true, false, false] rfl rfl (one_of HT_.out (by kernel_rfl)) (by decide) (fun K hK => ?_)
   refine box_step ?hg (N := 10) ?hd (cs := #[.int .i64 0, .int .i64 0]) (t := 103) ?hr ?_; (case hd => rfl); (case hg => rfl); (case hr => first | (go_simp; done) | (go_simp; rfl))
   intro gb176 hg w17 hbox hb
   have BK176 := Bk.mk (hbox)
   have GW176 := eB w hg
   have GE176 := eB w hg
   have NB169_176 := nB gb169 hg
   have NB176_169 := nB' gb169 hg
   have NB170_176 := nB gb170 hg
   have NB176_170 := nB' gb170 hg
   have NB175_176 := nB gb175 hg
   have NB176_175 := nB' gb175 hg
   replace BK169 := kB gb169 hb
   replace BK170 := kB gb170 hb
   replace BK175 := kB gb175 hb
   replace HB := bS w hb
   clear hb hbox hg
   refine hK.out _ _ ⟨bc BK169 0, bc BK169 1, bc BK169 2⟩ (fun hHeld => ?_)
   clear hK K
   refine norm_ (a' := ?_) ?_ ?_
   rotate_left
   ·
    show Act.put _ (some 10) _ = _
    simp only [Act.put, List.setIfInBounds_toArray, List.set_cons_zero, List.set_cons_succ, i64_w]
    rfl
   exact norm_ (by first | (simp only [putAll, Act.put, List.setIfInBounds_toArray, List.set_cons_zero, List.set_cons_succ]; done) | (simp only [putAll, Act.put, List.setIfInBounds_toArray, List.set_cons_zero, List.set_cons_succ]; rfl)) (hJ3_7_8_9 (gb175, gb176) _ ⟨hHeld, (bk _ gb169), (bk _ gb170), (bk _ gb175), (bk _ gb176), GW175.out, GE175.out, NB169_175.out, NB175_169.out, NB170_175.out, NB175_170.out, NB176_175.out, NB175_176.out, GW176.out, GE176.out, NB169_176.out, NB176_169.out, NB170_176.out, NB176_170.out, (bw w)⟩)
 rintro ⟨gb175, gb176⟩ w17 ⟨hS_, h0_, h1_, h2_, h3_, h4_, h5_, h6_, h7_, h8_, h9_, h10_, h11_, h12_, h13_, h14_, h15_, h16_, h17_, h18_⟩
 have n0_ : Bk w17 gb169 (.cells #[.int .i64 a0_0, .int .i64 a0_1, .slice A0_2 l0_2.length c0_2] 24 (0, 0)) := ⟨h0_⟩
 have n1_ : Bk w17 gb170 (.cells #[.int .i64 0, .int .i64 0] 103 (0, 0)) := ⟨h1_⟩
 have n2_ : Bk w17 gb175 (.cells #[.int .i64 0, .int .i64 0] 103 (0, 0)) := ⟨h2_⟩
 have n3_ : Bk w17 gb176 (.cells #[.int .i64 0, .int .i64 0] 103 (0, 0)) := ⟨h3_⟩
 have n4_ : Ge w gb175 := ⟨h4_⟩
 have n5_ : Ge w gb175 := ⟨h5_⟩
 have n6_ : Nb gb169 gb175 := ⟨h6_⟩
 have n7_ : Nb gb175 gb169 := ⟨h7_⟩
 have n8_ : Nb gb170 gb175 := ⟨h8_⟩
 have n9_ : Nb gb175 gb170 := ⟨h9_⟩
 have n10_ : Nb gb176 gb175 := ⟨h10_⟩
 have n11_ : Nb gb175 gb176 := ⟨h11_⟩
 have n12_ : Ge w gb176 := ⟨h12_⟩
 have n13_ : Ge w gb176 := ⟨h13_⟩
 have n14_ : Nb gb169 gb176 := ⟨h14_⟩
 have n15_ : Nb gb176 gb169 := ⟨h15_⟩
 have n16_ : Nb gb170 gb176 := ⟨h16_⟩
 have n17_ : Nb gb176 gb170 := ⟨h17_⟩
 have n18_ : Bw w w17 := ⟨h18_⟩
 clear BK169 BK170 HB h0_ h1_ h2_ h3_ h4_ h5_ h6_ h7_ h8_ h9_ h10_ h11_ h12_ h13_ h14_ h15_ h16_ h17_ h18_
 have BK169 := n0_
 have BK170 := n1_
 have BK175 := n2_
 have BK176 := n3_
 have GW175 := n4_
 have GE175 := n5_
 have NB169_175 := n6_
 have NB175_169 := n7_
 have NB170_175 := n8_
 have NB175_170 := n9_
 have NB176_175 := n10_
 have NB175_176 := n11_
 have GW176 := n12_
 have GE176 := n13_
 have NB169_176 := n14_
 have NB176_169 := n15_
 have NB170_176 := n16_
 have NB176_170 := n17_
 have HB := n18_
 clear n0_ n1_ n2_ n3_ n4_ n5_ n6_ n7_ n8_ n9_ n10_ n11_ n12_ n13_ n14_ n15_ n16_ n17_ n18_
 have hHeld : w17.cell? ⟨gb169, 0, none⟩ = some (.int .i64 a0_0) ∧ w17.cell? ⟨gb169, 1, none⟩ = some (.int .i64 a0_1) ∧ w17.cell? ⟨gb169, 2, none⟩ = some (.slice A0_2 l0_2.length c0_2) := hS_
 refine norm_ (a' := ?_) ?_ ?_
 rotate_left
 ·
  simp only [putAll, Act.put, List.setIfInBounds_toArray, List.set_cons_zero, List.set_cons_succ]
  rfl
 refine one_ (i := 10) (N := none) #[true, true, true, true, true, true, true, true, true, true, true, false] rfl rfl (one_of HT_.out (by kernel_rfl)) (by decide) (fun K hK => ?_)
 have hs18 : w17.cell? ⟨gb175, 0, none⟩ = some (.int .i64 0) := bc BK175 0
 have hfs18 := blk_frozen BK175.out 0
 have hns18_0 := NB169_175.out
 have hns18_1 := NB170_175.out
 have hns18_3 := NB176_175.out
 have hms18_0 := NB175_169.out
 have hms18_1 := NB175_170.out
 have hms18_3 := NB175_176.out
 have hs19 : w17.cell? ⟨gb175, 1, none⟩ = some (.int .i64 0) := bc BK175 1
 have hfs19 := blk_frozen BK175.out 1
 have hns19_0 := NB169_175.out
 have hns19_1 := NB170_175.out
 have hns19_3 := NB176_175.out
 have hms19_0 := NB175_169.out
 have hms19_1 := NB175_170.out
 have hms19_3 := NB175_176.out
 refine skip_ (w1 := ?_) (by rfl) rfl ?_ ?_
 rotate_left
 ·
  go_simp
  rfl
 refine hK.out _ _ ⟨((cell_far (p := ⟨gb175, _, none⟩) NB169_175.out _).trans (((cell_far (p := ⟨gb175, _, none⟩) NB169_175.out _).trans (hHeld.1)))), ((cell_far (p := ⟨gb175, _, none⟩) NB169_175.out _).trans (((cell_far (p := ⟨gb175, _, none⟩) NB169_175.out _).trans (hHeld.2.1)))), ((cell_far (p := ⟨gb175, _, none⟩) NB169_175.out _).trans (((cell_far (p := ⟨gb175, _, none⟩) NB169_175.out _).trans (hHeld.2.2))))⟩ (fun hHeld => ?_)
 clear hK K
 refine one_ (i := 11) (N := none) #[true, true, true, true, true, true, true, true, true, true, true, true] rfl rfl (one_of HT_.out (by kernel_rfl)) (by decide) (fun K hK => ?_)
 have hs20 : w17.cell? ⟨gb176, 0, none⟩ = some (.int .i64 0) := bc BK176 0
 have hfs20 := blk_frozen BK176.out 0
 have hns20_0 := NB169_176.out
 have hns20_1 := NB170_176.out
 have hns20_2 := NB175_176.out
 have hms20_0 := NB176_169.out
 have hms20_1 := NB176_170.out
 have hms20_2 := NB176_175.out
 have hs21 : w17.cell? ⟨gb176, 1, none⟩ = some (.int .i64 0) := bc BK176 1
 have hfs21 := blk_frozen BK176.out 1
 have hns21_0 := NB169_176.out
 have hns21_1 := NB170_176.out
 have hns21_2 := NB175_176.out
 have hms21_0 := NB176_169.out
 have hms21_1 := NB176_170.out
 have hms21_2 := NB176_175.out
 refine skip_ (w1 := ?_) (by rfl) rfl ?_ ?_
 rotate_left
 ·
  go_simp
  rfl
 refine hK.out _ _ ⟨((cell_far (p := ⟨gb176, _, none⟩) NB169_176.out _).trans (((cell_far (p := ⟨gb176, _, none⟩) NB169_176.out _).trans (hHeld.1)))), ((cell_far (p := ⟨gb176, _, none⟩) NB169_176.out _).trans (((cell_far (p := ⟨gb176, _, none⟩) NB169_176.out _).trans (hHeld.2.1)))), ((cell_far (p := ⟨gb176, _, none⟩) NB169_176.out _).trans (((cell_far (p := ⟨gb176, _, none⟩) NB169_176.out _).trans (hHeld.2.2))))⟩ (fun hHeld => ?_)
 clear hK K
 refine done_ (done_of HT_.out (by kernel_rfl)) ?_
 try go_wp2
 have n0_ : Bk ((((w17.setCell ⟨gb175, 0, none⟩ (.int .i64 t171)).setCell ⟨gb175, 1, none⟩ (.int .i64 t172)).setCell ⟨gb176, 0, none⟩ (.int .i64 t173)).setCell ⟨gb176, 1, none⟩ (.int .i64 t174)) gb169 (.cells #[.int .i64 a0_0, .int .i64 a0_1, .slice A0_2 l0_2.length c0_2] 24 (0, 0)) := ⟨bko gb169 (by rfl)⟩
 have n1_ : Bk ((((w17.setCell ⟨gb175, 0, none⟩ (.int .i64 t171)).setCell ⟨gb175, 1, none⟩ (.int .i64 t172)).setCell ⟨gb176, 0, none⟩ (.int .i64 t173)).setCell ⟨gb176, 1, none⟩ (.int .i64 t174)) gb170 (.cells #[.int .i64 0, .int .i64 0] 103 (0, 0)) := ⟨bko gb170 (by rfl)⟩
 have n2_ : Bk ((((w17.setCell ⟨gb175, 0, none⟩ (.int .i64 t171)).setCell ⟨gb175, 1, none⟩ (.int .i64 t172)).setCell ⟨gb176, 0, none⟩ (.int .i64 t173)).setCell ⟨gb176, 1, none⟩ (.int .i64 t174)) gb175 (.cells #[.int .i64 t171, .int .i64 t172] 103 (0, 0)) := ⟨bko gb175 (by rfl)⟩
 have n3_ : Bk ((((w17.setCell ⟨gb175, 0, none⟩ (.int .i64 t171)).setCell ⟨gb175, 1, none⟩ (.int .i64 t172)).setCell ⟨gb176, 0, none⟩ (.int .i64 t173)).setCell ⟨gb176, 1, none⟩ (.int .i64 t174)) gb176 (.cells #[.int .i64 t173, .int .i64 t174] 103 (0, 0)) := ⟨bko gb176 (by rfl)⟩
 have n4_ : Bw w ((((w17.setCell ⟨gb175, 0, none⟩ (.int .i64 t171)).setCell ⟨gb175, 1, none⟩ (.int .i64 t172)).setCell ⟨gb176, 0, none⟩ (.int .i64 t173)).setCell ⟨gb176, 1, none⟩ (.int .i64 t174)) := inferInstance
 (try clear BK169)
 (try clear BK170)
 (try clear BK175)
 (try clear BK176)
 (try clear HB)
 generalize ((((w17.setCell ⟨gb175, 0, none⟩ (.int .i64 t171)).setCell ⟨gb175, 1, none⟩ (.int .i64 t172)).setCell ⟨gb176, 0, none⟩ (.int .i64 t173)).setCell ⟨gb176, 1, none⟩ (.int .i64 t174)) = w22 at n0_ n1_ n2_ n3_ n4_ ⊢
 have BK169 := n0_
 have BK170 := n1_
 have BK175 := n2_
 have BK176 := n3_
 have HB := n4_
 clear n0_ n1_ n2_ n3_ n4_
 have n0_ := Bk.mk (blk_drew BK169.out)
 have n1_ := Bk.mk (blk_drew BK170.out)
 have n2_ := Bk.mk (blk_drew BK175.out)
 have n3_ := Bk.mk (blk_drew BK176.out)
 have n4_ := Bw.mk (below_drew1 HB.out)
 clear BK169 BK170 BK175 BK176 HB
 have BK169 := n0_
 have BK170 := n1_
 have BK175 := n2_
 have BK176 := n3_
 have HB := n4_
 clear n0_ n1_ n2_ n3_ n4_
 refine start_ (n := 21) (S := fun w' => w'.cell? ⟨gb176, 0, none⟩ = some (.int .i64 t173) ∧ w'.cell? ⟨gb176, 1, none⟩ = some (.int .i64 t174) ∧ w'.cell? ⟨gb175, 0, none⟩ = some (.int .i64 t171) ∧ w'.cell? ⟨gb175, 1, none⟩ = some (.int .i64 t172) ∧ w'.cell? ⟨gb169, 0, none⟩ = some (.int .i64 a0_0) ∧ w'.cell? ⟨gb169, 1, none⟩ = some (.int .i64 a0_1) ∧ w'.cell? ⟨gb169, 2, none⟩ = some (.slice A0_2 l0_2.length c0_2)) (ds := []) #[false, false, false, false, false, false, false, false, false, false, false, false, false, false, false, false, false, false, false, false, false] (by kernel_rfl) rfl rfl ⟨bc BK176 0, bc BK176 1, bc BK175 0, bc BK175 1, bc BK169 0, bc BK169 1, bc BK169 2⟩ (fun hHeld => ?_); refine with_tabW course_turn.tab2 course_turn.bits2 (fun HT_ HW_ => ?_)
 generalize w22.drew = w23 at BK169 BK170 BK175 BK176 HB hHeld ⊢
 refine pS 0 (some 19) rfl rfl (any_of HT_.out (by kernel_rfl)) (fun _ _ _ h => h) (by rfl) (fun w' => by go_simp; with_reducible rfl) (by simp only [Act.put, List.setIfInBounds_toArray, List.set_cons_zero, List.set_cons_succ, i64_w]; rfl) ?_
 refine pS 2 (some 21) rfl rfl (any_of HT_.out (by kernel_rfl)) (fun _ _ _ h => h) (by rfl) (fun w' => by go_simp; with_reducible rfl) (by simp only [Act.put, List.setIfInBounds_toArray, List.set_cons_zero, List.set_cons_succ, i64_w]; rfl) ?_
 refine pS 5 (some 24) rfl rfl (any_of HT_.out (by kernel_rfl)) (fun _ _ _ h => h) (by rfl) (fun w' => by go_simp; with_reducible rfl) (by simp only [Act.put, List.setIfInBounds_toArray, List.set_cons_zero, List.set_cons_succ, i64_w]; rfl) ?_
 refine pS 7 (some 26) rfl rfl (any_of HT_.out (by kernel_rfl)) (fun _ _ _ h => h) (by rfl) (fun w' => by go_simp; with_reducible rfl) (by simp only [Act.put, List.setIfInBounds_toArray, List.set_cons_zero, List.set_cons_succ, i64_w]; rfl) ?_
 refine pS 11 (some 30) rfl rfl (any_of HT_.out (by kernel_rfl)) (fun _ _ _ h => h) (by rfl) (fun w' => by go_simp; with_reducible rfl) (by simp only [Act.put, List.setIfInBounds_toArray, List.set_cons_zero, List.set_cons_succ, i64_w]; rfl) ?_
 refine pS 12 (some 31) rfl rfl (any_of HT_.out (by kernel_rfl)) (fun _ _ _ h => h) (by rfl) (fun w' => by go_simp; with_reducible rfl) (by simp only [Act.put, List.setIfInBounds_toArray, List.set_cons_zero, List.set_cons_succ, i64_w]; rfl) ?_
 refine pS 14 (some 33) rfl rfl (any_of HT_.out (by kernel_rfl)) (fun _ _ _ h => h) (by rfl) (fun w' => by go_simp; with_reducible rfl) (by simp only [Act.put, List.setIfInBounds_toArray, List.set_cons_zero, List.set_cons_succ, i64_w]; rfl) ?_
 refine pS 15 (some 34) rfl rfl (any_of HT_.out (by kernel_rfl)) (fun _ _ _ h => h) (by rfl) (fun w' => by go_simp; with_reducible rfl) (by simp only [Act.put, List.setIfInBounds_toArray, List.set_cons_zero, List.set_cons_succ, i64_w]; rfl) ?_
 refine tS 1 (some 20) rfl rfl (take_ofW HT_.out HW_.out (by kernel_rfl)) (fun _ _ _ h => h) (by rfl) (by rintro w' ⟨s0, s1, s2, s3, s4, s5, s6⟩; go_simp; with_reducible rfl) hHeld (by simp only [Act.put, List.setIfInBounds_toArray, List.set_cons_zero, List.set_cons_succ, i64_w]; rfl) ?_
 refine tS 3 (some 22) rfl rfl (take_ofW HT_.out HW_.out (by kernel_rfl)) (fun _ _ _ h => h) (by rfl) (by rintro w' ⟨s0, s1, s2, s3, s4, s5, s6⟩; go_simp; with_reducible rfl) hHeld (by simp only [Act.put, List.setIfInBounds_toArray, List.set_cons_zero, List.set_cons_succ, i64_w]; rfl) ?_
 refine pS 4 (some 23) rfl rfl (any_of HT_.out (by kernel_rfl)) (fun _ _ _ h => h) (by rfl) (fun w' => by go_simp; with_reducible rfl) (by simp only [Act.put, List.setIfInBounds_toArray, List.set_cons_zero, List.set_cons_succ, i64_w]; rfl) ?_
 refine tS 6 (some 25) rfl rfl (take_ofW HT_.out HW_.out (by kernel_rfl)) (fun _ _ _ h => h) (by rfl) (by rintro w' ⟨s0, s1, s2, s3, s4, s5, s6⟩; go_simp; with_reducible rfl) hHeld (by simp only [Act.put, List.setIfInBounds_toArray, List.set_cons_zero, List.set_cons_succ, i64_w]; rfl) ?_
 refine tS 8 (some 27) rfl rfl (take_ofW HT_.out HW_.out (by kernel_rfl)) (fun _ _ _ h => h) (by rfl) (by rintro w' ⟨s0, s1, s2, s3, s4, s5, s6⟩; go_simp; with_reducible rfl) hHeld (by simp only [Act.put, List.setIfInBounds_toArray, List.set_cons_zero, List.set_cons_succ, i64_w]; rfl) ?_
 refine pS 9 (some 28) rfl rfl (any_of HT_.out (by kernel_rfl)) (fun _ _ _ h => h) (by rfl) (fun w' => by go_simp; with_reducible rfl) (by simp only [Act.put, List.setIfInBounds_toArray, List.set_cons_zero, List.set_cons_succ, i64_w]; rfl) ?_
 refine pS 10 (some 29) rfl rfl (any_of HT_.out (by kernel_rfl)) (fun _ _ _ h => h) (by rfl) (fun w' => by go_simp; with_reducible rfl) (by simp only [Act.put, List.setIfInBounds_toArray, List.set_cons_zero, List.set_cons_succ, i64_w]; rfl) ?_
 refine tS 13 (some 32) rfl rfl (take_ofW HT_.out HW_.out (by kernel_rfl)) (fun _ _ _ h => h) (by rfl) (by rintro w' ⟨s0, s1, s2, s3, s4, s5, s6⟩; go_simp; with_reducible rfl) hHeld (by simp only [Act.put, List.setIfInBounds_toArray, List.set_cons_zero, List.set_cons_succ, i64_w]; rfl) ?_
 refine one_ (i := 16) (N := some 35) #[true, true, true, true, true, true, true, true, true, true, true, true, true, true, true, true, true, false, false, false, false] rfl rfl (one_of HT_.out (by kernel_rfl)) (by decide) (fun K hK => ?_)
 refine goesM Tryd.func101 (by kernel_rfl) rfl #[.int .i64 a1, .int .i64 a2] (by rfl) rfl rfl (by rfl) ?_
 with_reducible refine (course_apart.calls a1 a2 t177 _ A7.out).mono ?_
 rintro e w24 ⟨rfl, hb⟩
 refine ⟨_, rfl, ?_⟩
 replace BK169 := kB gb169 hb
 replace BK170 := kB gb170 hb
 replace BK175 := kB gb175 hb
 replace BK176 := kB gb176 hb
 replace HB := bS w hb
 (try clear hb)
 refine hK.out _ _ ⟨bc BK176 0, bc BK176 1, bc BK175 0, bc BK175 1, bc BK169 0, bc BK169 1, bc BK169 2⟩ (fun hHeld => ?_)
 clear hK K
 refine norm_ (a' := ?_) ?_ ?_
 rotate_left
 ·
  show Act.put _ (some 35) _ = _
  simp only [Act.put, List.setIfInBounds_toArray, List.set_cons_zero, List.set_cons_succ, i64_w]
  rfl
 refine pS 17 (some 36) rfl rfl (any_of HT_.out (by kernel_rfl)) (fun _ _ _ h => h) (by rfl) (fun w' => by go_simp; with_reducible rfl) (by simp only [Act.put, List.setIfInBounds_toArray, List.set_cons_zero, List.set_cons_succ, i64_w]; rfl) ?_
 refine one_ (i := 18) (N := some 37) #[true, true, true, true, true, true, true, true, true, true, true, true, true, true, true, true, true, true, true, false, false] rfl rfl (one_of HT_.out (by kernel_rfl)) (by decide) (fun K hK => ?_)
 refine goesM Tryd.func131 (by kernel_rfl) rfl #[.agg #[.int .i64 0, .int .i64 0], .int .i64 (wrap64 (a0_1 * t177))] (by rfl) rfl rfl (by rfl) ?_
 with_reducible refine (course_ends_wider.calls 0 0 (wrap64 (a0_1 * t177)) t178 t179 _ A8.out).mono ?_
 rintro e w25 ⟨rfl, hb⟩
 refine ⟨_, rfl, ?_⟩
 replace BK169 := kB gb169 hb
 replace BK170 := kB gb170 hb
 replace BK175 := kB gb175 hb
 replace BK176 := kB gb176 hb
 replace HB := bS w hb
 (try clear hb)
 refine hK.out _ _ ⟨bc BK176 0, bc BK176 1, bc BK175 0, bc BK175 1, bc BK169 0, bc BK169 1, bc BK169 2⟩ (fun hHeld => ?_)
 clear hK K
 refine norm_ (a' := ?_) ?_ ?_
 rotate_left
 ·
  show Act.put _ (some 37) _ = _
  simp only [Act.put, List.setIfInBounds_toArray, List.set_cons_zero, List.set_cons_succ, i64_w]
  rfl
 refine one_ (i := 19) (N := some 38) #[true, true, true, true, true, true, true, true, true, true, true, true, true, true, true, true, true, true, true, true, false] rfl rfl (one_of HT_.out (by kernel_rfl)) (by decide) (fun K hK => ?_)
 refine goesM Tryd.func130 (by kernel_rfl) rfl #[.agg #[.int .i64 (wrap64 (t173 - t172)), .int .i64 (wrap64 (t174 - t171))], .agg #[.int .i64 t178, .int .i64 t179]] (by rfl) rfl rfl (by rfl) ?_
 with_reducible refine (course_ends_meet.calls (wrap64 (t173 - t172)) (wrap64 (t174 - t171)) t178 t179 t180 t181 _ A9.out).mono ?_
 rintro e w26 ⟨rfl, hb⟩
 refine ⟨_, rfl, ?_⟩
 replace BK169 := kB gb169 hb
 replace BK170 := kB gb170 hb
 replace BK175 := kB gb175 hb
 replace BK176 := kB gb176 hb
 replace HB := bS w hb
 (try clear hb)
 refine hK.out _ _ ⟨bc BK176 0, bc BK176 1, bc BK175 0, bc BK175 1, bc BK169 0, bc BK169 1, bc BK169 2⟩ (fun hHeld => ?_)
 clear hK K
 refine norm_ (a' := ?_) ?_ ?_
 rotate_left
 ·
  show Act.put _ (some 38) _ = _
  simp only [Act.put, List.setIfInBounds_toArray, List.set_cons_zero, List.set_cons_succ, i64_w]
  rfl
 refine one_ (i := 20) (N := none) #[true, true, true, true, true, true, true, true, true, true, true, true, true, true, true, true, true, true, true, true, true] rfl rfl (one_of HT_.out (by kernel_rfl)) (by decide) (fun K hK => ?_)
 have hs27 : w26.cell? ⟨gb170, 0, none⟩ = some (.int .i64 0) := bc BK170 0
 have hfs27 := blk_frozen BK170.out 0
 have hns27_0 := NB169_170.out
 have hns27_2 := NB175_170.out
 have hns27_3 := NB176_170.out
 have hms27_0 := NB169_170.out.symm
 have hms27_2 := NB170_175.out
 have hms27_3 := NB170_176.out
 have hs28 : w26.cell? ⟨gb170, 1, none⟩ = some (.int .i64 0) := bc BK170 1
 have hfs28 := blk_frozen BK170.out 1
 have hns28_0 := NB169_170.out
 have hns28_2 := NB175_170.out
 have hns28_3 := NB176_170.out
 have hms28_0 := NB169_170.out.symm
 have hms28_2 := NB170_175.out
 have hms28_3 := NB170_176.out
 refine skip_ (w1 := ?_) (by rfl) rfl ?_ ?_
 rotate_left
 ·
  go_simp
  rfl
 refine hK.out _ _ ⟨((cell_far (p := ⟨gb170, _, none⟩) NB176_170.out _).trans (((cell_far (p := ⟨gb170, _, none⟩) NB176_170.out _).trans (hHeld.1)))), ((cell_far (p := ⟨gb170, _, none⟩) NB176_170.out _).trans (((cell_far (p := ⟨gb170, _, none⟩) NB176_170.out _).trans (hHeld.2.1)))), ((cell_far (p := ⟨gb170, _, none⟩) NB175_170.out _).trans (((cell_far (p := ⟨gb170, _, none⟩) NB175_170.out _).trans (hHeld.2.2.1)))), ((cell_far (p := ⟨gb170, _, none⟩) NB175_170.out _).trans (((cell_far (p := ⟨gb170, _, none⟩) NB175_170.out _).trans (hHeld.2.2.2.1)))), ((cell_far (p := ⟨gb170, _, none⟩) NB169_170.out _).trans (((cell_far (p := ⟨gb170, _, none⟩) NB169_170.out _).trans (hHeld.2.2.2.2.1)))), ((cell_far (p := ⟨gb170, _, none⟩) NB169_170.out _).trans (((cell_far (p := ⟨gb170, _, none⟩) NB169_170.out _).trans (hHeld.2.2.2.2.2.1)))), ((cell_far (p := ⟨gb170, _, none⟩) NB169_170.out _).trans (((cell_far (p := ⟨gb170, _, none⟩) NB169_170.out _).trans (hHeld.2.2.2.2.2.2))))⟩ (fun hHeld => ?_)
 clear hK K
 refine done_ (done_of HT_.out (by kernel_rfl)) ?_
 try go_wp2
 all_goals (refine bodyPost_ret (results_cell_row rfl _ _ gb170 103 #[.int .i64 t180, .int .i64 t181] (0, 0) _ rfl (bko gb170 (by rfl)) Tryd.underlying103 rfl (by kernel_rfl)) rfl ?_; exact ⟨by first | rfl | (simp [errW_none, errW_some] <;> rfl) | (simp [*, errW_none, errW_some] <;> rfl), bw w⟩)
def course_Turn.f (k : Nat) (a0_0 : Int) (a0_1 : Int) (l0_2 : List (S26)) (a1 : Int) (a2 : Int) (a3 : Int) : Option (Int × Int × Int) := (course_ask.f k a0_0 a0_1 l0_2 (([a1, a2, a3] : List Int))).bind fun t187 => (if t187 = 0 then ((course_turn.f k a0_0 a0_1 l0_2 a1 a2 a3).bind fun bt188 => (some (bt188.1, bt188.2, 0))) else (some (0, 0, t187)))
theorem course_Turn.mono : ∀ a0 a1 a2 a3 a4 a5 k, LeO (course_Turn.f k a0 a1 a2 a3 a4 a5) (course_Turn.f (k + 1) a0 a1 a2 a3 a4 a5) := by
 intro a0 a1 a2 a3 a4 a5 k
 unfold course_Turn.f
 repeat' first
   | (with_reducible exact course_ask.mono _ _ _ _ _)
   | (with_reducible exact course_turn.mono _ _ _ _ _ _ _)
   | (with_reducible exact LeO.refl _)
   | (with_reducible exact LeO.none _)
   | (with_reducible refine LeO.ite ?_ ?_)
   | (with_reducible refine LeO.bind ?_ (fun _ => ?_))
   | exact course_ask.mono _ _ _ _ _
   | exact course_turn.mono _ _ _ _ _ _ _
   | exact LeO.none _
   | refine LeO.ite ?_ ?_
   | refine LeO.bind ?_ (fun _ => ?_)
set_option maxHeartbeats 8000000 in
set_option maxRecDepth 100000 in
theorem course_Turn.calls (k : Nat) (a0_0 : Int) (a0_1 : Int) (A0_2 : Option Addr) (c0_2 : Nat) (l0_2 : List (S26)) (a1 : Int) (a2 : Int) (a3 : Int) (r1 : Int) (r2 : Int) (r3 : Int) (w : World) (hr0_2 : Kd.C k26 w A0_2 l0_2.length l0_2) (hc0_2 : l0_2.length ≤ c0_2) (h : course_Turn.f k a0_0 a0_1 l0_2 a1 a2 a3 = some (r1, r2, r3)) :
  Calls Tryd.prog 25 #[.agg #[.int .i64 a0_0, .int .i64 a0_1, .slice A0_2 l0_2.length c0_2], .int .i64 a1, .int .i64 a2, .int .i64 a3] w fun e w' => e = .returned (.tuple #[.agg #[.int .i64 r1, .int .i64 r2], .int .i64 r3]) ∧ Below w.heap.size w w' := by
 have hu24 := Tryd.underlying24
 have hu40 := Tryd.underlying40
 have hu103 := Tryd.underlying103
 have HR0_2 := Aside0.mk (hr0_2)
 have HC0_2 := Aside0.mk (hc0_2)
 clear hr0_2 hc0_2
 have HB := Bw.mk (Below.refl w.heap.size w)
 have H : ((course_ask.f k a0_0 a0_1 l0_2 (([a1, a2, a3] : List Int))).bind fun t187 => (if t187 = 0 then ((course_turn.f k a0_0 a0_1 l0_2 a1 a2 a3).bind fun bt188 => (some (bt188.1, bt188.2, 0))) else (some (0, 0, t187)))) = some (r1, r2, r3) := h
 clear h
 obtain ⟨y184, hy184⟩ : ∃ y_ : List Int, y_ = (([a1, a2, a3] : List Int)) := ⟨_, rfl⟩
 replace H : ((course_ask.f k a0_0 a0_1 l0_2 y184).bind fun t187 => (if t187 = 0 then ((course_turn.f k a0_0 a0_1 l0_2 a1 a2 a3).bind fun bt188 => (some (bt188.1, bt188.2, 0))) else (some (0, 0, t187)))) = some (r1, r2, r3) := by first | (rw [hy184]; with_reducible exact H) | (have H2_ := (Option.bind_some _ _).symm.trans H; rw [hy184]; with_reducible exact H2_) | (have H2_ := (Option.bind_some _ _).symm.trans H; with_reducible exact H2_) | with_reducible exact H | (rw [hy184]; exact H) | exact H
 have Ny184 := Aside0.mk (hy184)
 clear hy184
 replace H := Option.bind_eq_some_iff.mp H
 obtain ⟨t187, A50, H⟩ := H
 have A5 := Aside0.mk (A50)
 clear A50
 by_cases c6 : t187 = 0
 ·
  rw [if_pos c6] at H
  have c6b0 : (t187 == 0) = true := beq_iff_eq.mpr c6
  have c6b1 : (t187 != 0) = false := bne_eq_false_iff_eq.mpr c6
  clear c6
  replace H := Option.bind_eq_some_iff.mp H
  obtain ⟨⟨t188, t189⟩, A70, H⟩ := H
  have A7 := Aside0.mk (A70)
  clear A70
  simp only [Option.some.injEq, Prod.mk.injEq] at H
  obtain ⟨rfl, rfl, rfl⟩ := H
  go_enter Tryd.func25, Tryd.ntmps25
  go_wp2_with (first | ((with_reducible refine gate_dst (N := 4) rfl ?_); refine bxE 4 24 #[.int .i64 a0_0, .int .i64 a0_1, .slice A0_2 l0_2.length c0_2] (by rfl) (by rfl) (by first | (go_simp; done) | (go_simp; rfl)) ?_; intro gb182 hg w8 hbox hb; have BK182 := Bk.mk (hbox); have GE182 := eB w hg; replace HB := bS w hb; clear hb hbox hg) | ((with_reducible refine gate_dst (N := 8) rfl ?_); refine bxE 8 40 #[.int .i64 0, .int .i64 0] (by rfl) (by rfl) (by first | (go_simp; done) | (go_simp; rfl)) ?_; intro gb183 hg w9 hbox hb; have BK183 := Bk.mk (hbox); have GE183 := eB w hg; have NB182_183 := nB gb182 hg; replace BK182 := kB gb182 hb; replace HB := bS w hb; clear hb hbox hg; obtain ⟨hnb10, hnc10⟩ := nn NB182_183; obtain ⟨hcz11_0, hcz11_1, hcz11_2, hfz11_0, hfz11_1, hfz11_2⟩ := cz3 BK182) | ((with_reducible refine gate_dst (N := 16) rfl ?_); refine Kd.R_lit (Kd.int .i64) _ 3 ?hg (N := 16) ?hd (xs := ([a1, a2, a3] : List Int)) (inner := [.int .i64 a1, .int .i64 a2, .int .i64 a3]) (ok := fun _ => True) (okp := fun _ => True) ?hr ?hp (fun _ hk => hk) trivial (Below.refl _ _) (Nat.le_refl _) (by simp) ?_; (case hd => rfl); (case hg => rfl); (case hr => first | (go_simp; done) | (go_simp; rfl)); (case hp => exact (Reps.one (show Kd.M (Kd.int .i64) _ _ _ a1 [.int .i64 a1] from rfl) (Reps.one (show Kd.M (Kd.int .i64) _ _ _ a2 [.int .i64 a2] from rfl) (Reps.one (show Kd.M (Kd.int .i64) _ _ _ a3 [.int .i64 a3] from rfl) (Reps.none _ _))))); intro v185 w12 ho13 hb hg_ hnew_; clear hg_ hnew_; (first | rw [← Ny184.out] at ho13 | (simp only [Int.reduceToNat] at ho13; rw [← Ny184.out] at ho13)); have n0_ := Aside0.mk (Kd.R_lower ho13 (bz w)); replace BK182 := kB gb182 hb; replace BK183 := kB gb183 hb; replace HB := bS w hb; have HO186 := n0_; clear n0_ hb ho13; obtain ⟨Ao14, co14, eo14⟩ := Kd.R_slice HO186.out; subst eo14) | ((with_reducible refine gate_callee (f := 76) rfl ?_); refine goesLM (some 17) rfl rfl Tryd.func76 (by kernel_rfl) rfl #[.agg #[.int .i64 a0_0, .int .i64 a0_1, .slice A0_2 l0_2.length c0_2], .slice Ao14 y184.length co14] rfl (by rfl) ?_; (with_reducible refine (course_ask.calls k a0_0 a0_1 _ _ l0_2 _ _ y184 t187 _ ?side1 ?side2 ?side3 ?side4 A5.out).mono ?_); (case side1 => exact cP (Kd.C_below HR0_2.out HB.out)); (case side2 => exact HC0_2.out); (case side3 => exact cP (Kd.R_reads' HO186.out).2.2); (case side4 => exact (Kd.R_reads' HO186.out).2.1); rintro e w15 ⟨rfl, hb⟩; refine ⟨_, rfl, ?_⟩; replace HO186 := rB HO186 hb; replace BK182 := kB gb182 hb; replace BK183 := kB gb183 hb; replace HB := bS w hb; (try clear hb); obtain ⟨hcz16_0, hcz16_1, hcz16_2, hfz16_0, hfz16_1, hfz16_2⟩ := cz3 BK182) | ((with_reducible refine gate_callee (f := 79) rfl ?_); refine goesLM (some 26) rfl rfl Tryd.func79 (by kernel_rfl) rfl #[.agg #[.int .i64 a0_0, .int .i64 a0_1, .slice A0_2 l0_2.length c0_2], .int .i64 a1, .int .i64 a2, .int .i64 a3] rfl (by rfl) ?_; (with_reducible refine (course_turn.calls k a0_0 a0_1 _ _ l0_2 a1 a2 a3 t188 t189 _ ?side1 ?side2 A7.out).mono ?_); (case side1 => exact cP (Kd.C_below HR0_2.out HB.out)); (case side2 => exact HC0_2.out); rintro e w17 ⟨rfl, hb⟩; refine ⟨_, rfl, ?_⟩; replace HO186 := rB HO186 hb; replace BK182 := kB gb182 hb; replace BK183 := kB gb183 hb; replace HB := bS w hb; (try clear hb)) | ((with_reducible refine gate_dst (N := 11) rfl ?_); refine bxE 11 103 #[.int .i64 0, .int .i64 0] (by rfl) (by rfl) (by first | (go_simp; done) | (go_simp; rfl)) ?_; intro gb190 hg w18 hbox hb; have BK190 := Bk.mk (hbox); have GE190 := eB w hg; have NB182_190 := nB gb182 hg; have NB183_190 := nB gb183 hg; replace HO186 := rB HO186 hb; replace BK182 := kB gb182 hb; replace BK183 := kB gb183 hb; replace HB := bS w hb; clear hb hbox hg; obtain ⟨hnc19, hnb19⟩ := nn NB182_190; obtain ⟨hnc20, hnb20⟩ := nn NB183_190; obtain ⟨hcz21_0, hcz21_1, hfz21_0, hfz21_1⟩ := cz2 BK190; obtain ⟨hcz22_0, hcz22_1, hfz22_0, hfz22_1⟩ := cz2 BK183))
  all_goals (refine bodyPost_ret (results_ct rfl _ _ gb183 40 #[.int .i64 t188, .int .i64 t189] (0, 0) _ rfl (bko gb183 (by rfl)) Tryd.underlying40 rfl (by kernel_rfl)) rfl ?_; exact ⟨by first | rfl | (simp [errW_none, errW_some] <;> rfl) | (simp [*, errW_none, errW_some] <;> rfl), bw w⟩)
 ·
  rw [if_neg c6] at H
  have c6b0 : (t187 == 0) = false := beq_eq_false_iff_ne.mpr c6
  have c6b1 : (t187 != 0) = true := bne_iff_ne.mpr c6
  simp only [Option.some.injEq, Prod.mk.injEq] at H
  obtain ⟨rfl, rfl, rfl⟩ := H
  go_enter Tryd.func25, Tryd.ntmps25
  go_wp2_with (first | ((with_reducible refine gate_dst (N := 4) rfl ?_); refine bxE 4 24 #[.int .i64 a0_0, .int .i64 a0_1, .slice A0_2 l0_2.length c0_2] (by rfl) (by rfl) (by first | (go_simp; done) | (go_simp; rfl)) ?_; intro gb182 hg w23 hbox hb; have BK182 := Bk.mk (hbox); have GE182 := eB w hg; replace HB := bS w hb; clear hb hbox hg) | ((with_reducible refine gate_dst (N := 8) rfl ?_); refine bxE 8 40 #[.int .i64 0, .int .i64 0] (by rfl) (by rfl) (by first | (go_simp; done) | (go_simp; rfl)) ?_; intro gb183 hg w24 hbox hb; have BK183 := Bk.mk (hbox); have GE183 := eB w hg; have NB182_183 := nB gb182 hg; replace BK182 := kB gb182 hb; replace HB := bS w hb; clear hb hbox hg; obtain ⟨hnb25, hnc25⟩ := nn NB182_183; obtain ⟨hcz26_0, hcz26_1, hcz26_2, hfz26_0, hfz26_1, hfz26_2⟩ := cz3 BK182) | ((with_reducible refine gate_dst (N := 16) rfl ?_); refine Kd.R_lit (Kd.int .i64) _ 3 ?hg (N := 16) ?hd (xs := ([a1, a2, a3] : List Int)) (inner := [.int .i64 a1, .int .i64 a2, .int .i64 a3]) (ok := fun _ => True) (okp := fun _ => True) ?hr ?hp (fun _ hk => hk) trivial (Below.refl _ _) (Nat.le_refl _) (by simp) ?_; (case hd => rfl); (case hg => rfl); (case hr => first | (go_simp; done) | (go_simp; rfl)); (case hp => exact (Reps.one (show Kd.M (Kd.int .i64) _ _ _ a1 [.int .i64 a1] from rfl) (Reps.one (show Kd.M (Kd.int .i64) _ _ _ a2 [.int .i64 a2] from rfl) (Reps.one (show Kd.M (Kd.int .i64) _ _ _ a3 [.int .i64 a3] from rfl) (Reps.none _ _))))); intro v185 w27 ho28 hb hg_ hnew_; clear hg_ hnew_; (first | rw [← Ny184.out] at ho28 | (simp only [Int.reduceToNat] at ho28; rw [← Ny184.out] at ho28)); have n0_ := Aside0.mk (Kd.R_lower ho28 (bz w)); replace BK182 := kB gb182 hb; replace BK183 := kB gb183 hb; replace HB := bS w hb; have HO186 := n0_; clear n0_ hb ho28; obtain ⟨Ao29, co29, eo29⟩ := Kd.R_slice HO186.out; subst eo29) | ((with_reducible refine gate_callee (f := 76) rfl ?_); refine goesLM (some 17) rfl rfl Tryd.func76 (by kernel_rfl) rfl #[.agg #[.int .i64 a0_0, .int .i64 a0_1, .slice A0_2 l0_2.length c0_2], .slice Ao29 y184.length co29] rfl (by rfl) ?_; (with_reducible refine (course_ask.calls k a0_0 a0_1 _ _ l0_2 _ _ y184 t187 _ ?side1 ?side2 ?side3 ?side4 A5.out).mono ?_); (case side1 => exact cP (Kd.C_below HR0_2.out HB.out)); (case side2 => exact HC0_2.out); (case side3 => exact cP (Kd.R_reads' HO186.out).2.2); (case side4 => exact (Kd.R_reads' HO186.out).2.1); rintro e w30 ⟨rfl, hb⟩; refine ⟨_, rfl, ?_⟩; replace HO186 := rB HO186 hb; replace BK182 := kB gb182 hb; replace BK183 := kB gb183 hb; replace HB := bS w hb; (try clear hb); obtain ⟨hcz31_0, hcz31_1, hfz31_0, hfz31_1⟩ := cz2 BK183))
  all_goals (refine bodyPost_ret (results_ct rfl _ _ gb183 40 #[.int .i64 0, .int .i64 0] (0, 0) _ rfl (bko gb183 (by rfl)) Tryd.underlying40 rfl (by kernel_rfl)) rfl ?_; exact ⟨by first | rfl | (simp [errW_none, errW_some] <;> rfl) | (simp [*, errW_none, errW_some] <;> rfl), bw w⟩)
def snowlineref01_drift.l0 : Nat → Int → Int → Int → Int → Int → List (S26) → Int → Int → Option (Int × Int)
 | 0, _, _, _, _, _, _, _, _ => none
 | k + 1, x1, x2, x8, x541000, x541001, x541002, x543000, x543001 => if x8 < (x541002.length : Int) then (if 0 ≤ x8 then (if ((rd_T26 x541002 x8).f1) > x2 then (snowlineref01_drift.l0 k x1 x2 (wrap64 (x8 + 1)) x541000 x541001 x541002 x543000 x543001) else ((snowlineref01_far.f ((rd_T26 x541002 x8).f0) x1).bind fun t545 => (snowlineref01_drift.l0 k x1 x2 (wrap64 (x8 + 1)) x541000 x541001 x541002 (mx x543000 (wrap64 (((rd_T26 x541002 x8).f2) - (wrap64 (x541001 * t545))))) (mn x543001 (wrap64 (((rd_T26 x541002 x8).f3) + (wrap64 (x541001 * t545)))))))) else (none)) else (some (x543000, x543001))
def snowlineref01_drift.f (k : Nat) (a0_0 : Int) (a0_1 : Int) (l0_2 : List (S26)) (a1 : Int) (a2 : Int) : Option (Int × Int) := snowlineref01_drift.l0 k a1 a2 0 a0_0 a0_1 l0_2 (-1048576) 1048576
set_option maxHeartbeats 8000000 in
set_option maxRecDepth 100000 in
theorem snowlineref01_drift.calls (k : Nat) (a0_0 : Int) (a0_1 : Int) (A0_2 : Option Addr) (c0_2 : Nat) (l0_2 : List (S26)) (a1 : Int) (a2 : Int) (r1 : Int) (r2 : Int) (w : World) (hr0_2 : Kd.C k26 w A0_2 l0_2.length l0_2) (hc0_2 : l0_2.length ≤ c0_2) (h : snowlineref01_drift.f k a0_0 a0_1 l0_2 a1 a2 = some (r1, r2)) :
  Calls Tryd.prog 78 #[.agg #[.int .i64 a0_0, .int .i64 a0_1, .slice A0_2 l0_2.length c0_2], .int .i64 a1, .int .i64 a2] w fun e w' => e = .returned (.agg #[.int .i64 r1, .int .i64 r2]) ∧ Below w.heap.size w w' := by
 have hu24 := Tryd.underlying24
 have hu40 := Tryd.underlying40
 have hu26 := Tryd.underlying26
 have HR0_2 := Aside0.mk (hr0_2)
 have HC0_2 := Aside0.mk (hc0_2)
 clear hr0_2 hc0_2
 have HB := Bw.mk (Below.refl w.heap.size w)
 have H : (snowlineref01_drift.l0 k a1 a2 0 a0_0 a0_1 l0_2 (-1048576) 1048576) = some (r1, r2) := h
 clear h
 have H' := Aside0.mk H
 clear H
 go_enter Tryd.func78, Tryd.ntmps78
 go_wp2_with (first | ((with_reducible refine gate_dst (N := 3) rfl ?_); refine bxE 3 24 #[.int .i64 a0_0, .int .i64 a0_1, .slice A0_2 l0_2.length c0_2] (by rfl) (by rfl) (by first | (go_simp; done) | (go_simp; rfl)) ?_; intro gb540 hg w4 hbox hb; have BK540 := Bk.mk (hbox); have GE540 := eB w hg; replace HB := bS w hb; clear hb hbox hg) | ((with_reducible refine gate_dst (N := 6) rfl ?_); refine bxE 6 40 #[.int .i64 0, .int .i64 0] (by rfl) (by rfl) (by first | (go_simp; done) | (go_simp; rfl)) ?_; intro gb541 hg w5 hbox hb; have BK541 := Bk.mk (hbox); have GE541 := eB w hg; have NB540_541 := nB gb540 hg; replace BK540 := kB gb540 hb; replace HB := bS w hb; clear hb hbox hg) | ((with_reducible refine gate_dst (N := 7) rfl ?_); refine bxE 7 40 #[.int .i64 0, .int .i64 0] (by rfl) (by rfl) (by first | (go_simp; done) | (go_simp; rfl)) ?_; intro gb542 hg w6 hbox hb; have BK542 := Bk.mk (hbox); have GE542 := eB w hg; have NB540_542 := nB gb540 hg; have NB541_542 := nB gb541 hg; replace BK540 := kB gb540 hb; replace BK541 := kB gb541 hb; replace HB := bS w hb; clear hb hbox hg; obtain ⟨hnc7, hnb7⟩ := nn NB540_542; obtain ⟨hnc8, hnb8⟩ := nn NB541_542; obtain ⟨hcz9_0, hcz9_1, hfz9_0, hfz9_1⟩ := cz2 BK542))
 repeat (go_quiet (first | ((with_reducible refine gate_dst (N := 3) rfl ?_); refine bxE 3 24 #[.int .i64 a0_0, .int .i64 a0_1, .slice A0_2 l0_2.length c0_2] (by rfl) (by rfl) (by first | (go_simp; done) | (go_simp; rfl)) ?_; intro gb540 hg w4 hbox hb; have BK540 := Bk.mk (hbox); have GE540 := eB w hg; replace HB := bS w hb; clear hb hbox hg) | ((with_reducible refine gate_dst (N := 6) rfl ?_); refine bxE 6 40 #[.int .i64 0, .int .i64 0] (by rfl) (by rfl) (by first | (go_simp; done) | (go_simp; rfl)) ?_; intro gb541 hg w5 hbox hb; have BK541 := Bk.mk (hbox); have GE541 := eB w hg; have NB540_541 := nB gb540 hg; replace BK540 := kB gb540 hb; replace HB := bS w hb; clear hb hbox hg) | ((with_reducible refine gate_dst (N := 7) rfl ?_); refine bxE 7 40 #[.int .i64 0, .int .i64 0] (by rfl) (by rfl) (by first | (go_simp; done) | (go_simp; rfl)) ?_; intro gb542 hg w6 hbox hb; have BK542 := Bk.mk (hbox); have GE542 := eB w hg; have NB540_542 := nB gb540 hg; have NB541_542 := nB gb541 hg; replace BK540 := kB gb540 hb; replace BK541 := kB gb541 hb; replace HB := bS w hb; clear hb hbox hg; obtain ⟨hnc7, hnb7⟩ := nn NB540_542; obtain ⟨hnc8, hnb8⟩ := nn NB541_542; obtain ⟨hcz9_0, hcz9_1, hfz9_0, hfz9_1⟩ := cz2 BK542)); try go_wp2_with (first | ((with_reducible refine gate_dst (N := 3) rfl ?_); refine bxE 3 24 #[.int .i64 a0_0, .int .i64 a0_1, .slice A0_2 l0_2.length c0_2] (by rfl) (by rfl) (by first | (go_simp; done) | (go_simp; rfl)) ?_; intro gb540 hg w4 hbox hb; have BK540 := Bk.mk (hbox); have GE540 := eB w hg; replace HB := bS w hb; clear hb hbox hg) | ((with_reducible refine gate_dst (N := 6) rfl ?_); refine bxE 6 40 #[.int .i64 0, .int .i64 0] (by rfl) (by rfl) (by first | (go_simp; done) | (go_simp; rfl)) ?_; intro gb541 hg w5 hbox hb; have BK541 := Bk.mk (hbox); have GE541 := eB w hg; have NB540_541 := nB gb540 hg; replace BK540 := kB gb540 hb; replace HB := bS w hb; clear hb hbox hg) | ((with_reducible refine gate_dst (N := 7) rfl ?_); refine bxE 7 40 #[.int .i64 0, .int .i64 0] (by rfl) (by rfl) (by first | (go_simp; done) | (go_simp; rfl)) ?_; intro gb542 hg w6 hbox hb; have BK542 := Bk.mk (hbox); have GE542 := eB w hg; have NB540_542 := nB gb540 hg; have NB541_542 := nB gb541 hg; replace BK540 := kB gb540 hb; replace BK541 := kB gb541 hb; replace HB := bS w hb; clear hb hbox hg; obtain ⟨hnc7, hnb7⟩ := nn NB540_542; obtain ⟨hnc8, hnb8⟩ := nn NB541_542; obtain ⟨hcz9_0, hcz9_1, hfz9_0, hfz9_1⟩ := cz2 BK542)))
 go_loopg [8] k (fun kq v8 w' => ∃ (x8_1 : Int) (x543000_1 : Int) (x543001_1 : Int), v8 = .int .i64 x8_1 ∧ Aside0 (snowlineref01_drift.l0 kq a1 a2 x8_1 a0_0 a0_1 l0_2 x543000_1 x543001_1 = some (r1, r2)) ∧ Aside0 (kq ≤ k) ∧ Bk w' gb540 (.cells #[.int .i64 a0_0, .int .i64 a0_1, (.slice A0_2 l0_2.length c0_2)] 24 (0, 0)) ∧ Bk w' gb541 (.cells #[.int .i64 0, .int .i64 0] 40 (0, 0)) ∧ Bk w' gb542 (.cells #[.int .i64 x543000_1, .int .i64 x543001_1] 40 (0, 0)) ∧ Bw w w')
 case atStart => exact ⟨(0), ((-1048576)), (1048576), (by first | rfl | (simp; done) | (simp [*]; done)), H', ⟨Nat.le_refl _⟩, ⟨bko gb540 (by rfl)⟩, ⟨bko gb541 (by rfl)⟩, ⟨bko gb542 (by rfl)⟩, inferInstance⟩
 case round =>
  clear H'
  try clear p2
  try clear c7
  try clear c8
  obtain ⟨x8_1, x543000_1, x543001_1, rfl, HA, HK1, BK540, BK541, BK542, HB⟩ := hrel
  cases gk with
  | zero => exact absurd HA.out (by simp [snowlineref01_drift.l0])
  | succ k1 =>
   have H := HA.out
   clear HA
   simp only [snowlineref01_drift.l0] at H
   by_cases c10 : x8_1 < (l0_2.length : Int)
   ·
    rw [if_pos c10] at H
    have c10b0 : decide (x8_1 < (l0_2.length : Int)) = true := decide_eq_true c10
    clear c10
    by_cases c11 : 0 ≤ x8_1
    ·
     rw [if_pos c11] at H
     have c11b0 : decide (0 ≤ x8_1) = true := decide_eq_true c11
     clear c11
     by_cases c12 : ((rd_T26 l0_2 x8_1).f1) > a2
     ·
      rw [if_pos c12] at H
      have c12b0 : decide (a2 < ((rd_T26 l0_2 x8_1).f1)) = true := decide_eq_true c12
      clear c12
      have H' := Aside0.mk H
      clear H
      obtain ⟨hnb13, hnc13⟩ := nn NB540_541
      obtain ⟨hnb14, hnc14⟩ := nn NB540_542
      obtain ⟨hcz15_0, hcz15_1, hcz15_2, hfz15_0, hfz15_1, hfz15_2⟩ := cz3 BK540
      have p543 : 0 ≤ (x8_1 : Int) := of_decide_eq_true (by first | (with_reducible assumption) | assumption)
      have q543 : x8_1 < (l0_2.length : Int) := of_decide_eq_true (by first | (with_reducible assumption) | assumption)
      obtain ⟨ad543, e543, hx543_0, hx543_1, hx543_2, hx543_3⟩ := at_T26 HR0_2.out x8_1 p543 q543
      cases e543
      replace hx543_0 := cB HB hx543_0
      replace hx543_1 := cB HB hx543_1
      replace hx543_2 := cB HB hx543_2
      replace hx543_3 := cB HB hx543_3
      replace p543 := eq_true p543
      replace q543 := eq_true q543
      go_wp2_with (first | ((with_reducible refine gate_dst (N := 9) rfl ?_); refine bxE 9 26 #[.int .i64 0, .int .i64 0, .int .i64 0, .int .i64 0] (by rfl) (by rfl) (by first | (go_simp; done) | (go_simp; rfl)) ?_; intro gb544 hg w16 hbox hb; have BK544 := Bk.mk (hbox); have GE544 := eB w hg; have NB540_544 := nB gb540 hg; have NB541_544 := nB gb541 hg; have NB542_544 := nB gb542 hg; replace BK540 := kB gb540 hb; replace BK541 := kB gb541 hb; replace BK542 := kB gb542 hb; replace HB := bS w hb; clear hb hbox hg; obtain ⟨hnc17, hnb17⟩ := nn NB540_544; obtain ⟨hnc18, hnb18⟩ := nn NB541_544; obtain ⟨hnc19, hnb19⟩ := nn NB542_544; obtain ⟨hcz20_0, hcz20_1, hcz20_2, hcz20_3, hfz20_0, hfz20_1, hfz20_2, hfz20_3⟩ := cz4 BK544))
      repeat (go_quiet (first | ((with_reducible refine gate_dst (N := 9) rfl ?_); refine bxE 9 26 #[.int .i64 0, .int .i64 0, .int .i64 0, .int .i64 0] (by rfl) (by rfl) (by first | (go_simp; done) | (go_simp; rfl)) ?_; intro gb544 hg w16 hbox hb; have BK544 := Bk.mk (hbox); have GE544 := eB w hg; have NB540_544 := nB gb540 hg; have NB541_544 := nB gb541 hg; have NB542_544 := nB gb542 hg; replace BK540 := kB gb540 hb; replace BK541 := kB gb541 hb; replace BK542 := kB gb542 hb; replace HB := bS w hb; clear hb hbox hg; obtain ⟨hnc17, hnb17⟩ := nn NB540_544; obtain ⟨hnc18, hnb18⟩ := nn NB541_544; obtain ⟨hnc19, hnb19⟩ := nn NB542_544; obtain ⟨hcz20_0, hcz20_1, hcz20_2, hcz20_3, hfz20_0, hfz20_1, hfz20_2, hfz20_3⟩ := cz4 BK544)); try go_wp2_with (first | ((with_reducible refine gate_dst (N := 9) rfl ?_); refine bxE 9 26 #[.int .i64 0, .int .i64 0, .int .i64 0, .int .i64 0] (by rfl) (by rfl) (by first | (go_simp; done) | (go_simp; rfl)) ?_; intro gb544 hg w16 hbox hb; have BK544 := Bk.mk (hbox); have GE544 := eB w hg; have NB540_544 := nB gb540 hg; have NB541_544 := nB gb541 hg; have NB542_544 := nB gb542 hg; replace BK540 := kB gb540 hb; replace BK541 := kB gb541 hb; replace BK542 := kB gb542 hb; replace HB := bS w hb; clear hb hbox hg; obtain ⟨hnc17, hnb17⟩ := nn NB540_544; obtain ⟨hnc18, hnb18⟩ := nn NB541_544; obtain ⟨hnc19, hnb19⟩ := nn NB542_544; obtain ⟨hcz20_0, hcz20_1, hcz20_2, hcz20_3, hfz20_0, hfz20_1, hfz20_2, hfz20_3⟩ := cz4 BK544)))
      go_roundg k1
      case measure => have := HK1.out; omega
      case rel => exact ⟨(wrap64 (x8_1 + 1)), (x543000_1), (x543001_1), (by first | rfl | (simp; done) | (simp [*]; done)), H', ⟨by have := HK1.out; omega⟩, ⟨bko gb540 (by rfl)⟩, ⟨bko gb541 (by rfl)⟩, ⟨bko gb542 (by rfl)⟩, inferInstance⟩
     ·
      rw [if_neg c12] at H
      have c12b0 : decide (a2 < ((rd_T26 l0_2 x8_1).f1)) = false := decide_eq_false c12
      clear c12
      replace H := Option.bind_eq_some_iff.mp H
      obtain ⟨t545, A210, H⟩ := H
      have A21 := Aside0.mk (A210)
      clear A210
      obtain ⟨ji22, hji22⟩ : ∃ j_ : Int, (mx x543000_1 (wrap64 (((rd_T26 l0_2 x8_1).f2) - (wrap64 (a0_1 * t545))))) = j_ := ⟨_, rfl⟩
      replace H : (snowlineref01_drift.l0 k1 a1 a2 (wrap64 (x8_1 + 1)) a0_0 a0_1 l0_2 ji22 (mn x543001_1 (wrap64 (((rd_T26 l0_2 x8_1).f3) + (wrap64 (a0_1 * t545)))))) = some (r1, r2) := by first | (rw [hji22] at H; exact H) | (simp only [hji22] at H ⊢; exact H)
      (try rw [hji22] at A21)
      have hji22_ : (if x543000_1 < (wrap64 (((rd_T26 l0_2 x8_1).f2) - (wrap64 (a0_1 * t545)))) then (wrap64 (((rd_T26 l0_2 x8_1).f2) - (wrap64 (a0_1 * t545)))) else x543000_1) = ji22 := hji22
      obtain ⟨ji23, hji23⟩ : ∃ j_ : Int, (mn x543001_1 (wrap64 (((rd_T26 l0_2 x8_1).f3) + (wrap64 (a0_1 * t545))))) = j_ := ⟨_, rfl⟩
      replace H : (snowlineref01_drift.l0 k1 a1 a2 (wrap64 (x8_1 + 1)) a0_0 a0_1 l0_2 ji22 ji23) = some (r1, r2) := by first | (rw [hji23] at H; exact H) | (simp only [hji23] at H ⊢; exact H)
      (try rw [hji23] at A21)
      have hji23_ : (if (wrap64 (((rd_T26 l0_2 x8_1).f3) + (wrap64 (a0_1 * t545)))) < x543001_1 then (wrap64 (((rd_T26 l0_2 x8_1).f3) + (wrap64 (a0_1 * t545)))) else x543001_1) = ji23 := hji23
      have H' := Aside0.mk H
      clear H
      obtain ⟨hnb24, hnc24⟩ := nn NB540_541
      obtain ⟨hnb25, hnc25⟩ := nn NB540_542
      obtain ⟨hcz26_0, hcz26_1, hcz26_2, hfz26_0, hfz26_1, hfz26_2⟩ := cz3 BK540
      have p543 : 0 ≤ (x8_1 : Int) := of_decide_eq_true (by first | (with_reducible assumption) | assumption)
      have q543 : x8_1 < (l0_2.length : Int) := of_decide_eq_true (by first | (with_reducible assumption) | assumption)
      obtain ⟨ad543, e543, hx543_0, hx543_1, hx543_2, hx543_3⟩ := at_T26 HR0_2.out x8_1 p543 q543
      cases e543
      replace hx543_0 := cB HB hx543_0
      replace hx543_1 := cB HB hx543_1
      replace hx543_2 := cB HB hx543_2
      replace hx543_3 := cB HB hx543_3
      replace p543 := eq_true p543
      replace q543 := eq_true q543
      go_wp2_with (first | ((with_reducible refine gate_dst (N := 9) rfl ?_); refine bxE 9 26 #[.int .i64 0, .int .i64 0, .int .i64 0, .int .i64 0] (by rfl) (by rfl) (by first | (go_simp; done) | (go_simp; rfl)) ?_; intro gb544 hg w27 hbox hb; have BK544 := Bk.mk (hbox); have GE544 := eB w hg; have NB540_544 := nB gb540 hg; have NB541_544 := nB gb541 hg; have NB542_544 := nB gb542 hg; replace BK540 := kB gb540 hb; replace BK541 := kB gb541 hb; replace BK542 := kB gb542 hb; replace HB := bS w hb; clear hb hbox hg; obtain ⟨hnc28, hnb28⟩ := nn NB540_544; obtain ⟨hnc29, hnb29⟩ := nn NB541_544; obtain ⟨hnc30, hnb30⟩ := nn NB542_544; obtain ⟨hcz31_0, hcz31_1, hcz31_2, hcz31_3, hfz31_0, hfz31_1, hfz31_2, hfz31_3⟩ := cz4 BK544; obtain ⟨hcz32_0, hcz32_1, hcz32_2, hfz32_0, hfz32_1, hfz32_2⟩ := cz3 BK540) | (go_at_call 103; (with_reducible refine (snowlineref01_far.calls ((rd_T26 l0_2 x8_1).f0) a1 t545 _ A21.out).mono ?_); rintro e w' ⟨rfl, ⟨nd, rfl⟩⟩; (try first | exact ⟨rfl, _, World.drewN_drewN _ _ _⟩ | exact ⟨rfl, _, Eq.trans (World.drewN_drewN _ _ _) (congrArg (World.drewN _) (Nat.add_assoc _ _ _))⟩); obtain ⟨hnc33, hnb33⟩ := nn NB541_542; obtain ⟨hcz34_0, hcz34_1, hfz34_0, hfz34_1⟩ := cz2 BK542))
      repeat (go_quiet (first | ((with_reducible refine gate_dst (N := 9) rfl ?_); refine bxE 9 26 #[.int .i64 0, .int .i64 0, .int .i64 0, .int .i64 0] (by rfl) (by rfl) (by first | (go_simp; done) | (go_simp; rfl)) ?_; intro gb544 hg w27 hbox hb; have BK544 := Bk.mk (hbox); have GE544 := eB w hg; have NB540_544 := nB gb540 hg; have NB541_544 := nB gb541 hg; have NB542_544 := nB gb542 hg; replace BK540 := kB gb540 hb; replace BK541 := kB gb541 hb; replace BK542 := kB gb542 hb; replace HB := bS w hb; clear hb hbox hg; obtain ⟨hnc28, hnb28⟩ := nn NB540_544; obtain ⟨hnc29, hnb29⟩ := nn NB541_544; obtain ⟨hnc30, hnb30⟩ := nn NB542_544; obtain ⟨hcz31_0, hcz31_1, hcz31_2, hcz31_3, hfz31_0, hfz31_1, hfz31_2, hfz31_3⟩ := cz4 BK544; obtain ⟨hcz32_0, hcz32_1, hcz32_2, hfz32_0, hfz32_1, hfz32_2⟩ := cz3 BK540) | (go_at_call 103; (with_reducible refine (snowlineref01_far.calls ((rd_T26 l0_2 x8_1).f0) a1 t545 _ A21.out).mono ?_); rintro e w' ⟨rfl, ⟨nd, rfl⟩⟩; (try first | exact ⟨rfl, _, World.drewN_drewN _ _ _⟩ | exact ⟨rfl, _, Eq.trans (World.drewN_drewN _ _ _) (congrArg (World.drewN _) (Nat.add_assoc _ _ _))⟩); obtain ⟨hnc33, hnb33⟩ := nn NB541_542; obtain ⟨hcz34_0, hcz34_1, hfz34_0, hfz34_1⟩ := cz2 BK542)); try go_wp2_with (first | ((with_reducible refine gate_dst (N := 9) rfl ?_); refine bxE 9 26 #[.int .i64 0, .int .i64 0, .int .i64 0, .int .i64 0] (by rfl) (by rfl) (by first | (go_simp; done) | (go_simp; rfl)) ?_; intro gb544 hg w27 hbox hb; have BK544 := Bk.mk (hbox); have GE544 := eB w hg; have NB540_544 := nB gb540 hg; have NB541_544 := nB gb541 hg; have NB542_544 := nB gb542 hg; replace BK540 := kB gb540 hb; replace BK541 := kB gb541 hb; replace BK542 := kB gb542 hb; replace HB := bS w hb; clear hb hbox hg; obtain ⟨hnc28, hnb28⟩ := nn NB540_544; obtain ⟨hnc29, hnb29⟩ := nn NB541_544; obtain ⟨hnc30, hnb30⟩ := nn NB542_544; obtain ⟨hcz31_0, hcz31_1, hcz31_2, hcz31_3, hfz31_0, hfz31_1, hfz31_2, hfz31_3⟩ := cz4 BK544; obtain ⟨hcz32_0, hcz32_1, hcz32_2, hfz32_0, hfz32_1, hfz32_2⟩ := cz3 BK540) | (go_at_call 103; (with_reducible refine (snowlineref01_far.calls ((rd_T26 l0_2 x8_1).f0) a1 t545 _ A21.out).mono ?_); rintro e w' ⟨rfl, ⟨nd, rfl⟩⟩; (try first | exact ⟨rfl, _, World.drewN_drewN _ _ _⟩ | exact ⟨rfl, _, Eq.trans (World.drewN_drewN _ _ _) (congrArg (World.drewN _) (Nat.add_assoc _ _ _))⟩); obtain ⟨hnc33, hnb33⟩ := nn NB541_542; obtain ⟨hcz34_0, hcz34_1, hfz34_0, hfz34_1⟩ := cz2 BK542)))
      go_roundg k1
      case measure => have := HK1.out; omega
      case rel => exact ⟨(wrap64 (x8_1 + 1)), (ji22), (ji23), (by first | rfl | (simp; done) | (simp [*]; done)), H', ⟨by have := HK1.out; omega⟩, ⟨bko gb540 (by rfl)⟩, ⟨bko gb541 (by rfl)⟩, ⟨bko gb542 (by rfl)⟩, inferInstance⟩
    ·
     rw [if_neg c11] at H
     exact absurd H (by simp)
   ·
    rw [if_neg c10] at H
    have c10b0 : decide (x8_1 < (l0_2.length : Int)) = false := decide_eq_false c10
    clear c10
    simp only [Option.some.injEq, Prod.mk.injEq] at H
    obtain ⟨rfl, rfl⟩ := H
    obtain ⟨hnb35, hnc35⟩ := nn NB540_541
    obtain ⟨hnb36, hnc36⟩ := nn NB540_542
    obtain ⟨hcz37_0, hcz37_1, hcz37_2, hfz37_0, hfz37_1, hfz37_2⟩ := cz3 BK540
    obtain ⟨hnc38, hnb38⟩ := nn NB541_542
    obtain ⟨hcz39_0, hcz39_1, hfz39_0, hfz39_1⟩ := cz2 BK542
    obtain ⟨hcz40_0, hcz40_1, hfz40_0, hfz40_1⟩ := cz2 BK541
    go_wp2
    repeat (go_quiet (fail); try go_wp2)
    all_goals (refine bodyPost_ret (results_cell_row rfl _ _ gb541 40 #[.int .i64 x543000_1, .int .i64 x543001_1] (0, 0) _ rfl (bko gb541 (by rfl)) Tryd.underlying40 rfl (by kernel_rfl)) rfl ?_; exact ⟨by first | rfl | (simp [errW_none, errW_some] <;> rfl) | (simp [*, errW_none, errW_some] <;> rfl), bw w⟩)
def snowlineref01_turn.f (k : Nat) (a0_0 : Int) (a0_1 : Int) (l0_2 : List (S26)) (a1 : Int) (a2 : Int) (a3 : Int) : Option (Int × Int) := (snowlineref01_drift.f k a0_0 a0_1 l0_2 a1 a3).bind fun bt555 => ((snowlineref01_drift.f k a0_0 a0_1 l0_2 a2 a3).bind fun bt558 => ((snowlineref01_far.f a1 a2).bind fun t561 => (some (mx (wrap64 (-(wrap64 (a0_1 * t561)))) (wrap64 (bt558.1 - bt555.2)), mn (wrap64 (a0_1 * t561)) (wrap64 (bt558.2 - bt555.1))))))
set_option maxHeartbeats 8000000 in
set_option maxRecDepth 100000 in
theorem snowlineref01_turn.calls (k : Nat) (a0_0 : Int) (a0_1 : Int) (A0_2 : Option Addr) (c0_2 : Nat) (l0_2 : List (S26)) (a1 : Int) (a2 : Int) (a3 : Int) (r1 : Int) (r2 : Int) (w : World) (hr0_2 : Kd.C k26 w A0_2 l0_2.length l0_2) (hc0_2 : l0_2.length ≤ c0_2) (h : snowlineref01_turn.f k a0_0 a0_1 l0_2 a1 a2 a3 = some (r1, r2)) :
  Calls Tryd.prog 80 #[.agg #[.int .i64 a0_0, .int .i64 a0_1, .slice A0_2 l0_2.length c0_2], .int .i64 a1, .int .i64 a2, .int .i64 a3] w fun e w' => e = .returned (.agg #[.int .i64 r1, .int .i64 r2]) ∧ Below w.heap.size w w' := by
 have hu24 := Tryd.underlying24
 have hu40 := Tryd.underlying40
 have HR0_2 := Aside0.mk (hr0_2)
 have HC0_2 := Aside0.mk (hc0_2)
 clear hr0_2 hc0_2
 have HB := Bw.mk (Below.refl w.heap.size w)
 have H : ((snowlineref01_drift.f k a0_0 a0_1 l0_2 a1 a3).bind fun bt555 => ((snowlineref01_drift.f k a0_0 a0_1 l0_2 a2 a3).bind fun bt558 => ((snowlineref01_far.f a1 a2).bind fun t561 => (some (mx (wrap64 (-(wrap64 (a0_1 * t561)))) (wrap64 (bt558.1 - bt555.2)), mn (wrap64 (a0_1 * t561)) (wrap64 (bt558.2 - bt555.1))))))) = some (r1, r2) := h
 clear h
 replace H := Option.bind_eq_some_iff.mp H
 obtain ⟨⟨t555, t556⟩, A50, H⟩ := H
 have A5 := Aside0.mk (A50)
 clear A50
 replace H := Option.bind_eq_some_iff.mp H
 obtain ⟨⟨t558, t559⟩, A60, H⟩ := H
 have A6 := Aside0.mk (A60)
 clear A60
 replace H := Option.bind_eq_some_iff.mp H
 obtain ⟨t561, A70, H⟩ := H
 have A7 := Aside0.mk (A70)
 clear A70
 obtain ⟨ji8, hji8⟩ : ∃ j_ : Int, (mx (wrap64 (-(wrap64 (a0_1 * t561)))) (wrap64 (t558 - t556))) = j_ := ⟨_, rfl⟩
 replace H : (some (ji8, mn (wrap64 (a0_1 * t561)) (wrap64 (t559 - t555)))) = some (r1, r2) := by first | (rw [hji8] at H; exact H) | (simp only [hji8] at H ⊢; exact H)
 (try rw [hji8] at A5)
 (try rw [hji8] at A6)
 (try rw [hji8] at A7)
 have hji8_ : (if (wrap64 (-(wrap64 (a0_1 * t561)))) < (wrap64 (t558 - t556)) then (wrap64 (t558 - t556)) else (wrap64 (-(wrap64 (a0_1 * t561))))) = ji8 := hji8
 obtain ⟨ji9, hji9⟩ : ∃ j_ : Int, (mn (wrap64 (a0_1 * t561)) (wrap64 (t559 - t555))) = j_ := ⟨_, rfl⟩
 replace H : (some (ji8, ji9)) = some (r1, r2) := by first | (rw [hji9] at H; exact H) | (simp only [hji9] at H ⊢; exact H)
 (try rw [hji9] at A5)
 (try rw [hji9] at A6)
 (try rw [hji9] at A7)
 have hji9_ : (if (wrap64 (t559 - t555)) < (wrap64 (a0_1 * t561)) then (wrap64 (t559 - t555)) else (wrap64 (a0_1 * t561))) = ji9 := hji9
 simp only [Option.some.injEq, Prod.mk.injEq] at H
 obtain ⟨rfl, rfl⟩ := H
 go_enter Tryd.func80, Tryd.ntmps80
 go_wp2_with (first | ((with_reducible refine gate_dst (N := 4) rfl ?_); refine bxE 4 24 #[.int .i64 a0_0, .int .i64 a0_1, .slice A0_2 l0_2.length c0_2] (by rfl) (by rfl) (by first | (go_simp; done) | (go_simp; rfl)) ?_; intro gb553 hg w10 hbox hb; have BK553 := Bk.mk (hbox); have GE553 := eB w hg; replace HB := bS w hb; clear hb hbox hg) | ((with_reducible refine gate_dst (N := 8) rfl ?_); refine bxE 8 40 #[.int .i64 0, .int .i64 0] (by rfl) (by rfl) (by first | (go_simp; done) | (go_simp; rfl)) ?_; intro gb554 hg w11 hbox hb; have BK554 := Bk.mk (hbox); have GE554 := eB w hg; have NB553_554 := nB gb553 hg; replace BK553 := kB gb553 hb; replace HB := bS w hb; clear hb hbox hg; obtain ⟨hnb12, hnc12⟩ := nn NB553_554; obtain ⟨hcz13_0, hcz13_1, hcz13_2, hfz13_0, hfz13_1, hfz13_2⟩ := cz3 BK553) | (go_at_call 78; (with_reducible refine (snowlineref01_drift.calls k a0_0 a0_1 _ _ l0_2 a1 a3 t555 t556 _ ?side1 ?side2 A5.out).mono ?_); (case side1 => exact cP (Kd.C_below HR0_2.out HB.out)); (case side2 => exact HC0_2.out); rintro e w14 ⟨rfl, hb⟩; replace BK553 := kB gb553 hb; replace BK554 := kB gb554 hb; replace HB := bS w hb; (try clear hb)) | ((with_reducible refine gate_dst (N := 9) rfl ?_); refine bxE 9 40 #[.int .i64 0, .int .i64 0] (by rfl) (by rfl) (by first | (go_simp; done) | (go_simp; rfl)) ?_; intro gb557 hg w15 hbox hb; have BK557 := Bk.mk (hbox); have GE557 := eB w hg; have NB553_557 := nB gb553 hg; have NB554_557 := nB gb554 hg; replace BK553 := kB gb553 hb; replace BK554 := kB gb554 hb; replace HB := bS w hb; clear hb hbox hg; obtain ⟨hnc16, hnb16⟩ := nn NB553_557; obtain ⟨hnc17, hnb17⟩ := nn NB554_557; obtain ⟨hcz18_0, hcz18_1, hfz18_0, hfz18_1⟩ := cz2 BK557; obtain ⟨hcz19_0, hcz19_1, hcz19_2, hfz19_0, hfz19_1, hfz19_2⟩ := cz3 BK553) | (go_at_call 78; (with_reducible refine (snowlineref01_drift.calls k a0_0 a0_1 _ _ l0_2 a2 a3 t558 t559 _ ?side1 ?side2 A6.out).mono ?_); (case side1 => exact Kd.C_below HR0_2.out (bw w)); (case side2 => exact HC0_2.out); rintro e w20 ⟨rfl, hb⟩; replace BK553 := kB gb553 hb; replace BK554 := kB gb554 hb; replace BK557 := kBo gb557 (.cells #[.int .i64 t555, .int .i64 t556] 40 (0, 0)) hb (by rfl); replace HB := bS w hb; (try clear hb)) | ((with_reducible refine gate_dst (N := 10) rfl ?_); refine bxE 10 40 #[.int .i64 0, .int .i64 0] (by rfl) (by rfl) (by first | (go_simp; done) | (go_simp; rfl)) ?_; intro gb560 hg w21 hbox hb; have BK560 := Bk.mk (hbox); have GE560 := eB w hg; have NB553_560 := nB gb553 hg; have NB554_560 := nB gb554 hg; have NB557_560 := nB gb557 hg; replace BK553 := kB gb553 hb; replace BK554 := kB gb554 hb; replace BK557 := kB gb557 hb; replace HB := bS w hb; clear hb hbox hg; obtain ⟨hnc22, hnb22⟩ := nn NB553_560; obtain ⟨hnc23, hnb23⟩ := nn NB554_560; obtain ⟨hnc24, hnb24⟩ := nn NB557_560; obtain ⟨hcz25_0, hcz25_1, hfz25_0, hfz25_1⟩ := cz2 BK560; obtain ⟨hcz26_0, hcz26_1, hcz26_2, hfz26_0, hfz26_1, hfz26_2⟩ := cz3 BK553) | (go_at_call 103; (with_reducible refine (snowlineref01_far.calls a1 a2 t561 _ A7.out).mono ?_); rintro e w' ⟨rfl, ⟨nd, rfl⟩⟩; (try first | exact ⟨rfl, _, World.drewN_drewN _ _ _⟩ | exact ⟨rfl, _, Eq.trans (World.drewN_drewN _ _ _) (congrArg (World.drewN _) (Nat.add_assoc _ _ _))⟩); obtain ⟨hcz27_0, hcz27_1, hfz27_0, hfz27_1⟩ := cz2 BK557; obtain ⟨hcz28_0, hcz28_1, hfz28_0, hfz28_1⟩ := cz2 BK554))
 repeat (go_quiet (first | ((with_reducible refine gate_dst (N := 4) rfl ?_); refine bxE 4 24 #[.int .i64 a0_0, .int .i64 a0_1, .slice A0_2 l0_2.length c0_2] (by rfl) (by rfl) (by first | (go_simp; done) | (go_simp; rfl)) ?_; intro gb553 hg w10 hbox hb; have BK553 := Bk.mk (hbox); have GE553 := eB w hg; replace HB := bS w hb; clear hb hbox hg) | ((with_reducible refine gate_dst (N := 8) rfl ?_); refine bxE 8 40 #[.int .i64 0, .int .i64 0] (by rfl) (by rfl) (by first | (go_simp; done) | (go_simp; rfl)) ?_; intro gb554 hg w11 hbox hb; have BK554 := Bk.mk (hbox); have GE554 := eB w hg; have NB553_554 := nB gb553 hg; replace BK553 := kB gb553 hb; replace HB := bS w hb; clear hb hbox hg; obtain ⟨hnb12, hnc12⟩ := nn NB553_554; obtain ⟨hcz13_0, hcz13_1, hcz13_2, hfz13_0, hfz13_1, hfz13_2⟩ := cz3 BK553) | (go_at_call 78; (with_reducible refine (snowlineref01_drift.calls k a0_0 a0_1 _ _ l0_2 a1 a3 t555 t556 _ ?side1 ?side2 A5.out).mono ?_); (case side1 => exact cP (Kd.C_below HR0_2.out HB.out)); (case side2 => exact HC0_2.out); rintro e w14 ⟨rfl, hb⟩; replace BK553 := kB gb553 hb; replace BK554 := kB gb554 hb; replace HB := bS w hb; (try clear hb)) | ((with_reducible refine gate_dst (N := 9) rfl ?_); refine bxE 9 40 #[.int .i64 0, .int .i64 0] (by rfl) (by rfl) (by first | (go_simp; done) | (go_simp; rfl)) ?_; intro gb557 hg w15 hbox hb; have BK557 := Bk.mk (hbox); have GE557 := eB w hg; have NB553_557 := nB gb553 hg; have NB554_557 := nB gb554 hg; replace BK553 := kB gb553 hb; replace BK554 := kB gb554 hb; replace HB := bS w hb; clear hb hbox hg; obtain ⟨hnc16, hnb16⟩ := nn NB553_557; obtain ⟨hnc17, hnb17⟩ := nn NB554_557; obtain ⟨hcz18_0, hcz18_1, hfz18_0, hfz18_1⟩ := cz2 BK557; obtain ⟨hcz19_0, hcz19_1, hcz19_2, hfz19_0, hfz19_1, hfz19_2⟩ := cz3 BK553) | (go_at_call 78; (with_reducible refine (snowlineref01_drift.calls k a0_0 a0_1 _ _ l0_2 a2 a3 t558 t559 _ ?side1 ?side2 A6.out).mono ?_); (case side1 => exact Kd.C_below HR0_2.out (bw w)); (case side2 => exact HC0_2.out); rintro e w20 ⟨rfl, hb⟩; replace BK553 := kB gb553 hb; replace BK554 := kB gb554 hb; replace BK557 := kBo gb557 (.cells #[.int .i64 t555, .int .i64 t556] 40 (0, 0)) hb (by rfl); replace HB := bS w hb; (try clear hb)) | ((with_reducible refine gate_dst (N := 10) rfl ?_); refine bxE 10 40 #[.int .i64 0, .int .i64 0] (by rfl) (by rfl) (by first | (go_simp; done) | (go_simp; rfl)) ?_; intro gb560 hg w21 hbox hb; have BK560 := Bk.mk (hbox); have GE560 := eB w hg; have NB553_560 := nB gb553 hg; have NB554_560 := nB gb554 hg; have NB557_560 := nB gb557 hg; replace BK553 := kB gb553 hb; replace BK554 := kB gb554 hb; replace BK557 := kB gb557 hb; replace HB := bS w hb; clear hb hbox hg; obtain ⟨hnc22, hnb22⟩ := nn NB553_560; obtain ⟨hnc23, hnb23⟩ := nn NB554_560; obtain ⟨hnc24, hnb24⟩ := nn NB557_560; obtain ⟨hcz25_0, hcz25_1, hfz25_0, hfz25_1⟩ := cz2 BK560; obtain ⟨hcz26_0, hcz26_1, hcz26_2, hfz26_0, hfz26_1, hfz26_2⟩ := cz3 BK553) | (go_at_call 103; (with_reducible refine (snowlineref01_far.calls a1 a2 t561 _ A7.out).mono ?_); rintro e w' ⟨rfl, ⟨nd, rfl⟩⟩; (try first | exact ⟨rfl, _, World.drewN_drewN _ _ _⟩ | exact ⟨rfl, _, Eq.trans (World.drewN_drewN _ _ _) (congrArg (World.drewN _) (Nat.add_assoc _ _ _))⟩); obtain ⟨hcz27_0, hcz27_1, hfz27_0, hfz27_1⟩ := cz2 BK557; obtain ⟨hcz28_0, hcz28_1, hfz28_0, hfz28_1⟩ := cz2 BK554)); try go_wp2_with (first | ((with_reducible refine gate_dst (N := 4) rfl ?_); refine bxE 4 24 #[.int .i64 a0_0, .int .i64 a0_1, .slice A0_2 l0_2.length c0_2] (by rfl) (by rfl) (by first | (go_simp; done) | (go_simp; rfl)) ?_; intro gb553 hg w10 hbox hb; have BK553 := Bk.mk (hbox); have GE553 := eB w hg; replace HB := bS w hb; clear hb hbox hg) | ((with_reducible refine gate_dst (N := 8) rfl ?_); refine bxE 8 40 #[.int .i64 0, .int .i64 0] (by rfl) (by rfl) (by first | (go_simp; done) | (go_simp; rfl)) ?_; intro gb554 hg w11 hbox hb; have BK554 := Bk.mk (hbox); have GE554 := eB w hg; have NB553_554 := nB gb553 hg; replace BK553 := kB gb553 hb; replace HB := bS w hb; clear hb hbox hg; obtain ⟨hnb12, hnc12⟩ := nn NB553_554; obtain ⟨hcz13_0, hcz13_1, hcz13_2, hfz13_0, hfz13_1, hfz13_2⟩ := cz3 BK553) | (go_at_call 78; (with_reducible refine (snowlineref01_drift.calls k a0_0 a0_1 _ _ l0_2 a1 a3 t555 t556 _ ?side1 ?side2 A5.out).mono ?_); (case side1 => exact cP (Kd.C_below HR0_2.out HB.out)); (case side2 => exact HC0_2.out); rintro e w14 ⟨rfl, hb⟩; replace BK553 := kB gb553 hb; replace BK554 := kB gb554 hb; replace HB := bS w hb; (try clear hb)) | ((with_reducible refine gate_dst (N := 9) rfl ?_); refine bxE 9 40 #[.int .i64 0, .int .i64 0] (by rfl) (by rfl) (by first | (go_simp; done) | (go_simp; rfl)) ?_; intro gb557 hg w15 hbox hb; have BK557 := Bk.mk (hbox); have GE557 := eB w hg; have NB553_557 := nB gb553 hg; have NB554_557 := nB gb554 hg; replace BK553 := kB gb553 hb; replace BK554 := kB gb554 hb; replace HB := bS w hb; clear hb hbox hg; obtain ⟨hnc16, hnb16⟩ := nn NB553_557; obtain ⟨hnc17, hnb17⟩ := nn NB554_557; obtain ⟨hcz18_0, hcz18_1, hfz18_0, hfz18_1⟩ := cz2 BK557; obtain ⟨hcz19_0, hcz19_1, hcz19_2, hfz19_0, hfz19_1, hfz19_2⟩ := cz3 BK553) | (go_at_call 78; (with_reducible refine (snowlineref01_drift.calls k a0_0 a0_1 _ _ l0_2 a2 a3 t558 t559 _ ?side1 ?side2 A6.out).mono ?_); (case side1 => exact Kd.C_below HR0_2.out (bw w)); (case side2 => exact HC0_2.out); rintro e w20 ⟨rfl, hb⟩; replace BK553 := kB gb553 hb; replace BK554 := kB gb554 hb; replace BK557 := kBo gb557 (.cells #[.int .i64 t555, .int .i64 t556] 40 (0, 0)) hb (by rfl); replace HB := bS w hb; (try clear hb)) | ((with_reducible refine gate_dst (N := 10) rfl ?_); refine bxE 10 40 #[.int .i64 0, .int .i64 0] (by rfl) (by rfl) (by first | (go_simp; done) | (go_simp; rfl)) ?_; intro gb560 hg w21 hbox hb; have BK560 := Bk.mk (hbox); have GE560 := eB w hg; have NB553_560 := nB gb553 hg; have NB554_560 := nB gb554 hg; have NB557_560 := nB gb557 hg; replace BK553 := kB gb553 hb; replace BK554 := kB gb554 hb; replace BK557 := kB gb557 hb; replace HB := bS w hb; clear hb hbox hg; obtain ⟨hnc22, hnb22⟩ := nn NB553_560; obtain ⟨hnc23, hnb23⟩ := nn NB554_560; obtain ⟨hnc24, hnb24⟩ := nn NB557_560; obtain ⟨hcz25_0, hcz25_1, hfz25_0, hfz25_1⟩ := cz2 BK560; obtain ⟨hcz26_0, hcz26_1, hcz26_2, hfz26_0, hfz26_1, hfz26_2⟩ := cz3 BK553) | (go_at_call 103; (with_reducible refine (snowlineref01_far.calls a1 a2 t561 _ A7.out).mono ?_); rintro e w' ⟨rfl, ⟨nd, rfl⟩⟩; (try first | exact ⟨rfl, _, World.drewN_drewN _ _ _⟩ | exact ⟨rfl, _, Eq.trans (World.drewN_drewN _ _ _) (congrArg (World.drewN _) (Nat.add_assoc _ _ _))⟩); obtain ⟨hcz27_0, hcz27_1, hfz27_0, hfz27_1⟩ := cz2 BK557; obtain ⟨hcz28_0, hcz28_1, hfz28_0, hfz28_1⟩ := cz2 BK554)))
 all_goals (refine bodyPost_ret (results_cell_row rfl _ _ gb554 40 #[.int .i64 ji8, .int .i64 ji9] (0, 0) _ rfl (bko gb554 (by rfl)) Tryd.underlying40 rfl (by kernel_rfl)) rfl ?_; exact ⟨by first | rfl | (simp [errW_none, errW_some] <;> rfl) | (simp only [← hji8, ← hji9]; first | rfl | (simp [errW_none, errW_some] <;> rfl)) | (simp [*, errW_none, errW_some] <;> rfl), bw w⟩)
end Go.Proofs.YtapijkdgkajoeaaDoor.PF
end
section
namespace Go.Proofs.YtapijkdgkajoeaaDoor.PF
open Go.RowKit Go.Proofs.YtapijkdgkajoeaaDoorW.PrintWords Go.Proofs.YtapijkdgkajoeaaDoorW.PrintMore
theorem mx_comm (a b : Int) : mx a b = mx b a := by unfold mx; split <;> split <;> omega
theorem mn_comm (a b : Int) : mn a b = mn b a := by unfold mn; split <;> split <;> omega
def dstep (rate on known : Int) (t : S26) (s : Int × Int) : Int × Int := if t.f1 ≤ known then (mx s.1 (t.f2 - rate * dist t.f0 on), mn s.2 (t.f3 + rate * dist t.f0 on)) else s
def driftOf (rate : Int) (l : List S26) (on known : Int) : Int × Int := (List.range l.length).foldl (fun s i => dstep rate on known (at26 l i) s) (-1048576, 1048576)
def DIn (s : Int × Int) : Prop := -1048576 ≤ s.1 ∧ s.1 ≤ 1048576 ∧ -1048576 ≤ s.2 ∧ s.2 ≤ 1048576
theorem dstep_in {rate on known : Int} {t : S26} {s : Int × Int} (h0 : 0 ≤ rate) (h1 : rate ≤ 1000) (ht : OkT t) (ho : DayOk on) (h : DIn s) : DIn (dstep rate on known t s) := by
  have d := dist_range ht.1 ho
  have m := mulb h0 h1 d.1 d.2
  obtain ⟨_, _, t2, t3, t4⟩ := ht
  obtain ⟨a, b, c, e⟩ := h
  unfold dstep
  generalize rate * dist t.f0 on = q at *
  split
  · unfold DIn mx mn
    dsimp only
    refine ⟨?_, ?_, ?_, ?_⟩ <;> split <;> omega
  · exact ⟨a, b, c, e⟩
theorem course_drift_eq (no rate : Int) (l : List S26) (on known : Int) (hs : OkS no rate l) (ho : DayOk on) : DIn (driftOf rate l on known) ∧ Ev (fun k => course_drift.f k no rate l on known) (driftOf rate l on known) := by
  obtain ⟨_, h0, h1, hn, hl⟩ := hs
  obtain ⟨t, hI, ht, hev⟩ := fold1 l.length (fun k i (s : Int × Int) => course_drift.l0 k on known l (l.length : Int) i no rate l s.1 s.2) (fun i s => dstep rate on known (at26 l i) s) (fun _ s => DIn s) (fun s => (s.1, s.2))
    (fun i s hi hs => dstep_in h0 h1 (okL_at hl hi) ho hs)
    (fun k i s hi hs => by
      have hw : wrap64 ((i : Int) + 1) = (i : Int) + 1 := w64 (by omega) (by omega)
      have hT := okL_at hl hi
      have d := dist_range hT.1 ho
      have m := mulb h0 h1 d.1 d.2
      obtain ⟨t0, t1, t2, t3, t4⟩ := hT
      simp only [course_drift.l0]
      rw [if_pos (by omega), if_pos (by omega), if_pos (by omega), rd_at26, hw]
      unfold dstep
      by_cases hk : (at26 l i).f1 ≤ known
      · rw [if_pos hk, if_pos hk, course_apart_eq (day_b t0) (day_b ho)]
        simp only [Option.bind_some, course_ends_wider.f, course_ends_meet.f]
        rw [w64 (x := rate * dist (at26 l i).f0 on) (by omega) (by omega), w64 (x := (at26 l i).f2 - rate * dist (at26 l i).f0 on) (by omega) (by omega), w64 (x := (at26 l i).f3 + rate * dist (at26 l i).f0 on) (by omega) (by omega)]
      · rw [if_neg hk, if_neg hk])
    (fun k s _ => by simp only [course_drift.l0]; rw [if_neg (by omega)]) (-1048576, 1048576) ⟨by decide, by decide, by decide, by decide⟩
  have e : t = driftOf rate l on known := ht
  subst e
  refine ⟨hI, ?_⟩
  unfold course_drift.f
  exact Ev.bindc (a := ((-1048576 : Int), (1048576 : Int))) rfl hev
theorem ref_drift_eq (no rate : Int) (l : List S26) (on known : Int) (hs : OkS no rate l) (ho : DayOk on) : Ev (fun k => snowlineref01_drift.f k no rate l on known) (driftOf rate l on known) := by
  obtain ⟨_, h0, h1, hn, hl⟩ := hs
  obtain ⟨t, hI, ht, hev⟩ := fold1 l.length (fun k i (s : Int × Int) => snowlineref01_drift.l0 k on known i no rate l s.1 s.2) (fun i s => dstep rate on known (at26 l i) s) (fun _ s => DIn s) (fun s => (s.1, s.2))
    (fun i s hi hs => dstep_in h0 h1 (okL_at hl hi) ho hs)
    (fun k i s hi hs => by
      have hw : wrap64 ((i : Int) + 1) = (i : Int) + 1 := w64 (by omega) (by omega)
      have hT := okL_at hl hi
      have d := dist_range hT.1 ho
      have m := mulb h0 h1 d.1 d.2
      obtain ⟨t0, t1, t2, t3, t4⟩ := hT
      simp only [snowlineref01_drift.l0]
      rw [if_pos (by omega), if_pos (by omega), rd_at26, hw]
      unfold dstep
      by_cases hk : (at26 l i).f1 ≤ known
      · rw [if_neg (by omega), if_pos hk, ref_far_eq (day_b t0) (day_b ho)]
        simp only [Option.bind_some]
        rw [w64 (x := rate * dist (at26 l i).f0 on) (by omega) (by omega), w64 (x := (at26 l i).f2 - rate * dist (at26 l i).f0 on) (by omega) (by omega), w64 (x := (at26 l i).f3 + rate * dist (at26 l i).f0 on) (by omega) (by omega)]
      · rw [if_pos (by omega), if_neg hk])
    (fun k s _ => by simp only [snowlineref01_drift.l0]; rw [if_neg (by omega)]) (-1048576, 1048576) ⟨by decide, by decide, by decide, by decide⟩
  have e : t = driftOf rate l on known := ht
  subst e
  exact hev
def turnOf (rate : Int) (l : List S26) (a b known : Int) : Int × Int :=
  (mx ((driftOf rate l b known).1 - (driftOf rate l a known).2) (-(rate * dist a b)), mn ((driftOf rate l b known).2 - (driftOf rate l a known).1) (rate * dist a b))
theorem course_turn_eq (no rate : Int) (l : List S26) (a b known : Int) (hs : OkS no rate l) (ha : DayOk a) (hb : DayOk b) : Ev (fun k => course_turn.f k no rate l a b known) (turnOf rate l a b known) := by
  obtain ⟨⟨p1, p2, p3, p4⟩, e1⟩ := course_drift_eq no rate l a known hs ha
  obtain ⟨⟨q1, q2, q3, q4⟩, e2⟩ := course_drift_eq no rate l b known hs hb
  have d := dist_range ha hb
  have m := mulb hs.2.1 hs.2.2.1 d.1 d.2
  unfold course_turn.f
  refine Ev.bind e1 (Ev.bind e2 (Ev.bindc (course_apart_eq (day_b ha) (day_b hb)) (Ev.const ?_)))
  simp only [Option.bind_some, course_ends_wider.f, course_ends_meet.f, turnOf]
  rw [w64 (x := rate * dist a b) (by omega) (by omega), w64 (x := 0 - rate * dist a b) (by omega) (by omega), w64 (x := 0 + rate * dist a b) (by omega) (by omega), w64 (x := (driftOf rate l b known).1 - (driftOf rate l a known).2) (by omega) (by omega),
    w64 (x := (driftOf rate l b known).2 - (driftOf rate l a known).1) (by omega) (by omega), Int.zero_sub, Int.zero_add]
theorem ref_turn_eq (no rate : Int) (l : List S26) (a b known : Int) (hs : OkS no rate l) (ha : DayOk a) (hb : DayOk b) : Ev (fun k => snowlineref01_turn.f k no rate l a b known) (turnOf rate l a b known) := by
  obtain ⟨⟨p1, p2, p3, p4⟩, _⟩ := course_drift_eq no rate l a known hs ha
  obtain ⟨⟨q1, q2, q3, q4⟩, _⟩ := course_drift_eq no rate l b known hs hb
  have d := dist_range ha hb
  have m := mulb hs.2.1 hs.2.2.1 d.1 d.2
  unfold snowlineref01_turn.f
  refine Ev.bind (ref_drift_eq no rate l a known hs ha) (Ev.bind (ref_drift_eq no rate l b known hs hb) (Ev.bindc (ref_far_eq (day_b ha) (day_b hb)) (Ev.const ?_)))
  simp only [turnOf]
  rw [w64 (x := rate * dist a b) (by omega) (by omega), w64 (x := -(rate * dist a b)) (by omega) (by omega), w64 (x := (driftOf rate l b known).1 - (driftOf rate l a known).2) (by omega) (by omega),
    w64 (x := (driftOf rate l b known).2 - (driftOf rate l a known).1) (by omega) (by omega), mx_comm, mn_comm]
theorem errS_ok {no rate : Int} {l : List S26} {e : Int} (h : ErrS no rate l e) (h0 : e = 0) : OkS no rate l := (h.zero.1 h0).1
end Go.Proofs.YtapijkdgkajoeaaDoor.PF
end
section
namespace Go.Proofs.YtapijkdgkajoeaaDoor.PF
open Go.RowKit Go.Proofs.YtapijkdgkajoeaaDoorW.PrintWords Go.Proofs.YtapijkdgkajoeaaDoorW.PrintLast Go.Proofs.YtapijkdgkajoeaaDoorW.PrintMore
attribute [local go_sem] max2_int min2_int max_two min_two
set_option linter.unusedVariables false
set_option linter.unusedSimpArgs false
attribute [local go_sem high] ixA103_1
def course_gram.f (a0 : Int) : Option (Bool) := if a0 ≥ 0 then (some (decide (a0 ≤ 1048576))) else (some false)
set_option maxHeartbeats 8000000 in
set_option maxRecDepth 100000 in
theorem course_gram.calls (a0 : Int) (r : Bool) (w : World) (h : course_gram.f a0 = some r) :
  Calls Tryd.prog 92 #[.int .i64 a0] w fun e w' => e = .returned (.bool r) ∧ Drawn0 w w' := by
 have H : (if a0 ≥ 0 then (some (decide (a0 ≤ 1048576))) else (some false)) = some r := h
 clear h
 by_cases c2 : a0 ≥ 0
 ·
  rw [if_pos c2] at H
  have c2b0 : decide (0 ≤ a0) = true := decide_eq_true c2
  clear c2
  obtain rfl := Option.some.inj H
  go_enter Tryd.func92, Tryd.ntmps92
  go_wp2
  go_ret
  exact ⟨by first | rfl | (simp; done) | (simp [*]; done), by repeat (first | exact Drawn0.refl _ | apply Drawn0.step)⟩
 ·
  rw [if_neg c2] at H
  have c2b0 : decide (0 ≤ a0) = false := decide_eq_false c2
  clear c2
  obtain rfl := Option.some.inj H
  go_enter Tryd.func92, Tryd.ntmps92
  go_wp2
  go_ret
  exact ⟨by first | rfl | (simp; done) | (simp [*]; done), by repeat (first | exact Drawn0.refl _ | apply Drawn0.step)⟩
def course_every_at_number.l0 : Nat → List Int → Int → Int → Option (Bool)
 | 0, _, _, _ => none
 | k + 1, x7, x8, x9 => if x9 < x8 then (if 0 ≤ x9 then (if x9 < (x7.length : Int) then ((course_number.f (rd x7 x9)).bind fun t192 => (if t192 = true then (course_every_at_number.l0 k x7 x8 (wrap64 (x9 + 1))) else (some false))) else (none)) else (none)) else (some true)
def course_every_at_number.f (k : Nat)  (l1 : List Int) : Option (Bool) := course_every_at_number.l0 k l1 (l1.length : Int) 0
theorem course_every_at_number.mono_l : ∀ k, (∀ y0 y1 y2, LeO (course_every_at_number.l0 k y0 y1 y2) (course_every_at_number.l0 (k + 1) y0 y1 y2))
 | 0 => fun _ _ _ r h => by simp [course_every_at_number.l0] at h
 | k + 1 => by
  have ih0 := course_every_at_number.mono_l k
  ·
   intro y0 y1 y2
   unfold course_every_at_number.l0
   repeat' first
   | (with_reducible exact ih0 _ _ _)
   | (with_reducible exact LeO.refl _)
   | (with_reducible exact LeO.none _)
   | (with_reducible refine LeO.ite ?_ ?_)
   | (with_reducible refine LeO.bind ?_ (fun _ => ?_))
   | exact ih0 _ _ _
   | exact LeO.none _
   | refine LeO.ite ?_ ?_
   | refine LeO.bind ?_ (fun _ => ?_)
theorem course_every_at_number.mono : ∀ a0 k, LeO (course_every_at_number.f k a0) (course_every_at_number.f (k + 1) a0) := by
 intro a0 k
 have ih0 := course_every_at_number.mono_l k
 unfold course_every_at_number.f
 repeat' first
   | (with_reducible exact ih0 _ _ _)
   | (with_reducible exact LeO.refl _)
   | (with_reducible exact LeO.none _)
   | (with_reducible refine LeO.ite ?_ ?_)
   | (with_reducible refine LeO.bind ?_ (fun _ => ?_))
   | exact ih0 _ _ _
   | exact LeO.none _
   | refine LeO.ite ?_ ?_
   | refine LeO.bind ?_ (fun _ => ?_)
set_option maxHeartbeats 8000000 in
set_option maxRecDepth 100000 in
theorem course_every_at_number.calls (k : Nat)  (A1 : Option Addr) (c1 : Nat) (l1 : List Int) (r : Bool) (w : World) (hr1 : Kd.C (Kd.int .i64) w A1 l1.length l1) (hc1 : l1.length ≤ c1) (h : course_every_at_number.f k l1 = some r) :
  Calls Tryd.prog 90 #[.func (.func 91) #[] #[], .slice A1 l1.length c1] w fun e w' => e = .returned (.bool r) ∧ Drawn0 w w' := by
 have HR1 := Aside0.mk (hr1)
 have HC1 := Aside0.mk (hc1)
 clear hr1 hc1
 have H : (course_every_at_number.l0 k l1 (l1.length : Int) 0) = some r := h
 clear h
 have H' := Aside0.mk H
 clear H
 go_enter Tryd.func90, Tryd.ntmps90
 go_wp2
 go_loopg [9] k (fun kq v9 w' => ∃ (x9_1 : Int), v9 = .int .i64 x9_1 ∧ Aside0 (course_every_at_number.l0 kq l1 (l1.length : Int) x9_1 = some r) ∧ Aside0 (kq ≤ k) ∧ Drawn0 w w')
 case atStart => exact ⟨(0), (by first | rfl | (simp; done) | (simp [*]; done)), H', ⟨Nat.le_refl _⟩, by repeat (first | exact Drawn0.refl _ | apply Drawn0.step)⟩
 case round =>
  clear H'
  try clear c1
  try clear p2
  obtain ⟨x9_1, rfl, HA, HK1, ⟨m1, rfl⟩⟩ := hrel
  cases gk with
  | zero => exact absurd HA.out (by simp [course_every_at_number.l0])
  | succ k1 =>
   have H := HA.out
   clear HA
   simp only [course_every_at_number.l0] at H
   by_cases c3 : x9_1 < (l1.length : Int)
   ·
    rw [if_pos c3] at H
    have c3b0 : decide (x9_1 < (l1.length : Int)) = true := decide_eq_true c3
    clear c3
    by_cases c4 : 0 ≤ x9_1
    ·
     rw [if_pos c4] at H
     have c4b0 : decide (0 ≤ x9_1) = true := decide_eq_true c4
     clear c4
     by_cases c5 : x9_1 < (l1.length : Int)
     ·
      rw [if_pos c5] at H
      have c5b0 : decide (x9_1 < (l1.length : Int)) = true := decide_eq_true c5
      clear c5
      replace H := Option.bind_eq_some_iff.mp H
      obtain ⟨t192, A60, H⟩ := H
      have A6 := Aside0.mk (A60)
      clear A60
      by_cases c7 : t192 = true
      ·
       subst c7
       rw [if_pos rfl] at H
       have H' := Aside0.mk H
       clear H
       have p191 : 0 ≤ (x9_1 : Int) := of_decide_eq_true (by first | (with_reducible assumption) | assumption)
       have q191 : x9_1 < (l1.length : Int) := of_decide_eq_true (by first | (with_reducible assumption) | assumption)
       obtain ⟨ad191, e191, hx191_0⟩ := Kd.at_int HR1.out x9_1 p191 q191
       cases e191
       replace p191 := eq_true p191
       replace q191 := eq_true q191
       go_wp2_with (first | (go_at_call 91; (with_reducible refine (course_number.calls (rd l1 x9_1) true _ A6.out).mono ?_); rintro e w' ⟨rfl, ⟨nd, rfl⟩⟩))
       go_roundg k1
       case measure => have := HK1.out; omega
       case rel => exact ⟨(wrap64 (x9_1 + 1)), (by first | rfl | (simp; done) | (simp [*]; done)), H', ⟨by have := HK1.out; omega⟩, by repeat (first | exact Drawn0.refl _ | apply Drawn0.step)⟩
      ·
       replace c7 := Bool.eq_false_iff.mpr c7
       subst c7
       rw [if_neg (show ¬ (false = true) by decide)] at H
       obtain rfl := Option.some.inj H
       have p191 : 0 ≤ (x9_1 : Int) := of_decide_eq_true (by first | (with_reducible assumption) | assumption)
       have q191 : x9_1 < (l1.length : Int) := of_decide_eq_true (by first | (with_reducible assumption) | assumption)
       obtain ⟨ad191, e191, hx191_0⟩ := Kd.at_int HR1.out x9_1 p191 q191
       cases e191
       replace p191 := eq_true p191
       replace q191 := eq_true q191
       go_wp2_with (first | (go_at_call 91; (with_reducible refine (course_number.calls (rd l1 x9_1) false _ A6.out).mono ?_); rintro e w' ⟨rfl, ⟨nd, rfl⟩⟩))
       go_ret
       exact ⟨by first | rfl | (simp; done) | (simp [*]; done), by repeat (first | exact Drawn0.refl _ | apply Drawn0.step)⟩
     ·
      rw [if_neg c5] at H
      exact absurd H (by simp)
    ·
     rw [if_neg c4] at H
     exact absurd H (by simp)
   ·
    rw [if_neg c3] at H
    have c3b0 : decide (x9_1 < (l1.length : Int)) = false := decide_eq_false c3
    clear c3
    obtain rfl := Option.some.inj H
    go_wp2
    go_ret
    exact ⟨by first | rfl | (simp; done) | (simp [*]; done), by repeat (first | exact Drawn0.refl _ | apply Drawn0.step)⟩
def course_every_at_day.l0 : Nat → List Int → Int → Int → Option (Bool)
 | 0, _, _, _ => none
 | k + 1, x7, x8, x9 => if x9 < x8 then (if 0 ≤ x9 then (if x9 < (x7.length : Int) then ((course_day.f (rd x7 x9)).bind fun t194 => (if t194 = true then (course_every_at_day.l0 k x7 x8 (wrap64 (x9 + 1))) else (some false))) else (none)) else (none)) else (some true)
def course_every_at_day.f (k : Nat)  (l1 : List Int) : Option (Bool) := course_every_at_day.l0 k l1 (l1.length : Int) 0
theorem course_every_at_day.mono_l : ∀ k, (∀ y0 y1 y2, LeO (course_every_at_day.l0 k y0 y1 y2) (course_every_at_day.l0 (k + 1) y0 y1 y2))
 | 0 => fun _ _ _ r h => by simp [course_every_at_day.l0] at h
 | k + 1 => by
  have ih0 := course_every_at_day.mono_l k
  ·
   intro y0 y1 y2
   unfold course_every_at_day.l0
   repeat' first
   | (with_reducible exact ih0 _ _ _)
   | (with_reducible exact LeO.refl _)
   | (with_reducible exact LeO.none _)
   | (with_reducible refine LeO.ite ?_ ?_)
   | (with_reducible refine LeO.bind ?_ (fun _ => ?_))
   | exact ih0 _ _ _
   | exact LeO.none _
   | refine LeO.ite ?_ ?_
   | refine LeO.bind ?_ (fun _ => ?_)
theorem course_every_at_day.mono : ∀ a0 k, LeO (course_every_at_day.f k a0) (course_every_at_day.f (k + 1) a0) := by
 intro a0 k
 have ih0 := course_every_at_day.mono_l k
 unfold course_every_at_day.f
 repeat' first
   | (with_reducible exact ih0 _ _ _)
   | (with_reducible exact LeO.refl _)
   | (with_reducible exact LeO.none _)
   | (with_reducible refine LeO.ite ?_ ?_)
   | (with_reducible refine LeO.bind ?_ (fun _ => ?_))
   | exact ih0 _ _ _
   | exact LeO.none _
   | refine LeO.ite ?_ ?_
   | refine LeO.bind ?_ (fun _ => ?_)
set_option maxHeartbeats 8000000 in
set_option maxRecDepth 100000 in
theorem course_every_at_day.calls (k : Nat)  (A1 : Option Addr) (c1 : Nat) (l1 : List Int) (r : Bool) (w : World) (hr1 : Kd.C (Kd.int .i64) w A1 l1.length l1) (hc1 : l1.length ≤ c1) (h : course_every_at_day.f k l1 = some r) :
  Calls Tryd.prog 90 #[.func (.func 74) #[] #[], .slice A1 l1.length c1] w fun e w' => e = .returned (.bool r) ∧ Drawn0 w w' := by
 have HR1 := Aside0.mk (hr1)
 have HC1 := Aside0.mk (hc1)
 clear hr1 hc1
 have H : (course_every_at_day.l0 k l1 (l1.length : Int) 0) = some r := h
 clear h
 have H' := Aside0.mk H
 clear H
 go_enter Tryd.func90, Tryd.ntmps90
 go_wp2
 go_loopg [9] k (fun kq v9 w' => ∃ (x9_1 : Int), v9 = .int .i64 x9_1 ∧ Aside0 (course_every_at_day.l0 kq l1 (l1.length : Int) x9_1 = some r) ∧ Aside0 (kq ≤ k) ∧ Drawn0 w w')
 case atStart => exact ⟨(0), (by first | rfl | (simp; done) | (simp [*]; done)), H', ⟨Nat.le_refl _⟩, by repeat (first | exact Drawn0.refl _ | apply Drawn0.step)⟩
 case round =>
  clear H'
  try clear c1
  try clear p2
  obtain ⟨x9_1, rfl, HA, HK1, ⟨m1, rfl⟩⟩ := hrel
  cases gk with
  | zero => exact absurd HA.out (by simp [course_every_at_day.l0])
  | succ k1 =>
   have H := HA.out
   clear HA
   simp only [course_every_at_day.l0] at H
   by_cases c3 : x9_1 < (l1.length : Int)
   ·
    rw [if_pos c3] at H
    have c3b0 : decide (x9_1 < (l1.length : Int)) = true := decide_eq_true c3
    clear c3
    by_cases c4 : 0 ≤ x9_1
    ·
     rw [if_pos c4] at H
     have c4b0 : decide (0 ≤ x9_1) = true := decide_eq_true c4
     clear c4
     by_cases c5 : x9_1 < (l1.length : Int)
     ·
      rw [if_pos c5] at H
      have c5b0 : decide (x9_1 < (l1.length : Int)) = true := decide_eq_true c5
      clear c5
      replace H := Option.bind_eq_some_iff.mp H
      obtain ⟨t194, A60, H⟩ := H
      have A6 := Aside0.mk (A60)
      clear A60
      by_cases c7 : t194 = true
      ·
       subst c7
       rw [if_pos rfl] at H
       have H' := Aside0.mk H
       clear H
       have p193 : 0 ≤ (x9_1 : Int) := of_decide_eq_true (by first | (with_reducible assumption) | assumption)
       have q193 : x9_1 < (l1.length : Int) := of_decide_eq_true (by first | (with_reducible assumption) | assumption)
       obtain ⟨ad193, e193, hx193_0⟩ := Kd.at_int HR1.out x9_1 p193 q193
       cases e193
       replace p193 := eq_true p193
       replace q193 := eq_true q193
       go_wp2_with (first | (go_at_call 74; (with_reducible refine (course_day.calls (rd l1 x9_1) true _ A6.out).mono ?_); rintro e w' ⟨rfl, ⟨nd, rfl⟩⟩))
       go_roundg k1
       case measure => have := HK1.out; omega
       case rel => exact ⟨(wrap64 (x9_1 + 1)), (by first | rfl | (simp; done) | (simp [*]; done)), H', ⟨by have := HK1.out; omega⟩, by repeat (first | exact Drawn0.refl _ | apply Drawn0.step)⟩
      ·
       replace c7 := Bool.eq_false_iff.mpr c7
       subst c7
       rw [if_neg (show ¬ (false = true) by decide)] at H
       obtain rfl := Option.some.inj H
       have p193 : 0 ≤ (x9_1 : Int) := of_decide_eq_true (by first | (with_reducible assumption) | assumption)
       have q193 : x9_1 < (l1.length : Int) := of_decide_eq_true (by first | (with_reducible assumption) | assumption)
       obtain ⟨ad193, e193, hx193_0⟩ := Kd.at_int HR1.out x9_1 p193 q193
       cases e193
       replace p193 := eq_true p193
       replace q193 := eq_true q193
       go_wp2_with (first | (go_at_call 74; (with_reducible refine (course_day.calls (rd l1 x9_1) false _ A6.out).mono ?_); rintro e w' ⟨rfl, ⟨nd, rfl⟩⟩))
       go_ret
       exact ⟨by first | rfl | (simp; done) | (simp [*]; done), by repeat (first | exact Drawn0.refl _ | apply Drawn0.step)⟩
     ·
      rw [if_neg c5] at H
      exact absurd H (by simp)
    ·
     rw [if_neg c4] at H
     exact absurd H (by simp)
   ·
    rw [if_neg c3] at H
    have c3b0 : decide (x9_1 < (l1.length : Int)) = false := decide_eq_false c3
    clear c3
    obtain rfl := Option.some.inj H
    go_wp2
    go_ret
    exact ⟨by first | rfl | (simp; done) | (simp [*]; done), by repeat (first | exact Drawn0.refl _ | apply Drawn0.step)⟩
def course_length.f (a0 : Int) : Option (Bool) := if a0 ≥ 0 then (some (decide (a0 ≤ 20000))) else (some false)
set_option maxHeartbeats 8000000 in
set_option maxRecDepth 100000 in
theorem course_length.calls (a0 : Int) (r : Bool) (w : World) (h : course_length.f a0 = some r) :
  Calls Tryd.prog 93 #[.int .i64 a0] w fun e w' => e = .returned (.bool r) ∧ Drawn0 w w' := by
 have H : (if a0 ≥ 0 then (some (decide (a0 ≤ 20000))) else (some false)) = some r := h
 clear h
 by_cases c2 : a0 ≥ 0
 ·
  rw [if_pos c2] at H
  have c2b0 : decide (0 ≤ a0) = true := decide_eq_true c2
  clear c2
  obtain rfl := Option.some.inj H
  go_enter Tryd.func93, Tryd.ntmps93
  go_wp2
  go_ret
  exact ⟨by first | rfl | (simp; done) | (simp [*]; done), by repeat (first | exact Drawn0.refl _ | apply Drawn0.step)⟩
 ·
  rw [if_neg c2] at H
  have c2b0 : decide (0 ≤ a0) = false := decide_eq_false c2
  clear c2
  obtain rfl := Option.some.inj H
  go_enter Tryd.func93, Tryd.ntmps93
  go_wp2
  go_ret
  exact ⟨by first | rfl | (simp; done) | (simp [*]; done), by repeat (first | exact Drawn0.refl _ | apply Drawn0.step)⟩
def course_every_at_length.l0 : Nat → List Int → Int → Int → Option (Bool)
 | 0, _, _, _ => none
 | k + 1, x7, x8, x9 => if x9 < x8 then (if 0 ≤ x9 then (if x9 < (x7.length : Int) then ((course_length.f (rd x7 x9)).bind fun t196 => (if t196 = true then (course_every_at_length.l0 k x7 x8 (wrap64 (x9 + 1))) else (some false))) else (none)) else (none)) else (some true)
def course_every_at_length.f (k : Nat)  (l1 : List Int) : Option (Bool) := course_every_at_length.l0 k l1 (l1.length : Int) 0
theorem course_every_at_length.mono_l : ∀ k, (∀ y0 y1 y2, LeO (course_every_at_length.l0 k y0 y1 y2) (course_every_at_length.l0 (k + 1) y0 y1 y2))
 | 0 => fun _ _ _ r h => by simp [course_every_at_length.l0] at h
 | k + 1 => by
  have ih0 := course_every_at_length.mono_l k
  ·
   intro y0 y1 y2
   unfold course_every_at_length.l0
   repeat' first
   | (with_reducible exact ih0 _ _ _)
   | (with_reducible exact LeO.refl _)
   | (with_reducible exact LeO.none _)
   | (with_reducible refine LeO.ite ?_ ?_)
   | (with_reducible refine LeO.bind ?_ (fun _ => ?_))
   | exact ih0 _ _ _
   | exact LeO.none _
   | refine LeO.ite ?_ ?_
   | refine LeO.bind ?_ (fun _ => ?_)
theorem course_every_at_length.mono : ∀ a0 k, LeO (course_every_at_length.f k a0) (course_every_at_length.f (k + 1) a0) := by
 intro a0 k
 have ih0 := course_every_at_length.mono_l k
 unfold course_every_at_length.f
 repeat' first
   | (with_reducible exact ih0 _ _ _)
   | (with_reducible exact LeO.refl _)
   | (with_reducible exact LeO.none _)
   | (with_reducible refine LeO.ite ?_ ?_)
   | (with_reducible refine LeO.bind ?_ (fun _ => ?_))
   | exact ih0 _ _ _
   | exact LeO.none _
   | refine LeO.ite ?_ ?_
   | refine LeO.bind ?_ (fun _ => ?_)
set_option maxHeartbeats 8000000 in
set_option maxRecDepth 100000 in
theorem course_every_at_length.calls (k : Nat)  (A1 : Option Addr) (c1 : Nat) (l1 : List Int) (r : Bool) (w : World) (hr1 : Kd.C (Kd.int .i64) w A1 l1.length l1) (hc1 : l1.length ≤ c1) (h : course_every_at_length.f k l1 = some r) :
  Calls Tryd.prog 90 #[.func (.func 93) #[] #[], .slice A1 l1.length c1] w fun e w' => e = .returned (.bool r) ∧ Drawn0 w w' := by
 have HR1 := Aside0.mk (hr1)
 have HC1 := Aside0.mk (hc1)
 clear hr1 hc1
 have H : (course_every_at_length.l0 k l1 (l1.length : Int) 0) = some r := h
 clear h
 have H' := Aside0.mk H
 clear H
 go_enter Tryd.func90, Tryd.ntmps90
 go_wp2
 go_loopg [9] k (fun kq v9 w' => ∃ (x9_1 : Int), v9 = .int .i64 x9_1 ∧ Aside0 (course_every_at_length.l0 kq l1 (l1.length : Int) x9_1 = some r) ∧ Aside0 (kq ≤ k) ∧ Drawn0 w w')
 case atStart => exact ⟨(0), (by first | rfl | (simp; done) | (simp [*]; done)), H', ⟨Nat.le_refl _⟩, by repeat (first | exact Drawn0.refl _ | apply Drawn0.step)⟩
 case round =>
  clear H'
  try clear c1
  try clear p2
  obtain ⟨x9_1, rfl, HA, HK1, ⟨m1, rfl⟩⟩ := hrel
  cases gk with
  | zero => exact absurd HA.out (by simp [course_every_at_length.l0])
  | succ k1 =>
   have H := HA.out
   clear HA
   simp only [course_every_at_length.l0] at H
   by_cases c3 : x9_1 < (l1.length : Int)
   ·
    rw [if_pos c3] at H
    have c3b0 : decide (x9_1 < (l1.length : Int)) = true := decide_eq_true c3
    clear c3
    by_cases c4 : 0 ≤ x9_1
    ·
     rw [if_pos c4] at H
     have c4b0 : decide (0 ≤ x9_1) = true := decide_eq_true c4
     clear c4
     by_cases c5 : x9_1 < (l1.length : Int)
     ·
      rw [if_pos c5] at H
      have c5b0 : decide (x9_1 < (l1.length : Int)) = true := decide_eq_true c5
      clear c5
      replace H := Option.bind_eq_some_iff.mp H
      obtain ⟨t196, A60, H⟩ := H
      have A6 := Aside0.mk (A60)
      clear A60
      by_cases c7 : t196 = true
      ·
       subst c7
       rw [if_pos rfl] at H
       have H' := Aside0.mk H
       clear H
       have p195 : 0 ≤ (x9_1 : Int) := of_decide_eq_true (by first | (with_reducible assumption) | assumption)
       have q195 : x9_1 < (l1.length : Int) := of_decide_eq_true (by first | (with_reducible assumption) | assumption)
       obtain ⟨ad195, e195, hx195_0⟩ := Kd.at_int HR1.out x9_1 p195 q195
       cases e195
       replace p195 := eq_true p195
       replace q195 := eq_true q195
       go_wp2_with (first | (go_at_call 93; (with_reducible refine (course_length.calls (rd l1 x9_1) true _ A6.out).mono ?_); rintro e w' ⟨rfl, ⟨nd, rfl⟩⟩))
       go_roundg k1
       case measure => have := HK1.out; omega
       case rel => exact ⟨(wrap64 (x9_1 + 1)), (by first | rfl | (simp; done) | (simp [*]; done)), H', ⟨by have := HK1.out; omega⟩, by repeat (first | exact Drawn0.refl _ | apply Drawn0.step)⟩
      ·
       replace c7 := Bool.eq_false_iff.mpr c7
       subst c7
       rw [if_neg (show ¬ (false = true) by decide)] at H
       obtain rfl := Option.some.inj H
       have p195 : 0 ≤ (x9_1 : Int) := of_decide_eq_true (by first | (with_reducible assumption) | assumption)
       have q195 : x9_1 < (l1.length : Int) := of_decide_eq_true (by first | (with_reducible assumption) | assumption)
       obtain ⟨ad195, e195, hx195_0⟩ := Kd.at_int HR1.out x9_1 p195 q195
       cases e195
       replace p195 := eq_true p195
       replace q195 := eq_true q195
       go_wp2_with (first | (go_at_call 93; (with_reducible refine (course_length.calls (rd l1 x9_1) false _ A6.out).mono ?_); rintro e w' ⟨rfl, ⟨nd, rfl⟩⟩))
       go_ret
       exact ⟨by first | rfl | (simp; done) | (simp [*]; done), by repeat (first | exact Drawn0.refl _ | apply Drawn0.step)⟩
     ·
      rw [if_neg c5] at H
      exact absurd H (by simp)
    ·
     rw [if_neg c4] at H
     exact absurd H (by simp)
   ·
    rw [if_neg c3] at H
    have c3b0 : decide (x9_1 < (l1.length : Int)) = false := decide_eq_false c3
    clear c3
    obtain rfl := Option.some.inj H
    go_wp2
    go_ret
    exact ⟨by first | rfl | (simp; done) | (simp [*]; done), by repeat (first | exact Drawn0.refl _ | apply Drawn0.step)⟩
def course_every_at_gram.l0 : Nat → List Int → Int → Int → Option (Bool)
 | 0, _, _, _ => none
 | k + 1, x7, x8, x9 => if x9 < x8 then (if 0 ≤ x9 then (if x9 < (x7.length : Int) then ((course_gram.f (rd x7 x9)).bind fun t198 => (if t198 = true then (course_every_at_gram.l0 k x7 x8 (wrap64 (x9 + 1))) else (some false))) else (none)) else (none)) else (some true)
def course_every_at_gram.f (k : Nat)  (l1 : List Int) : Option (Bool) := course_every_at_gram.l0 k l1 (l1.length : Int) 0
theorem course_every_at_gram.mono_l : ∀ k, (∀ y0 y1 y2, LeO (course_every_at_gram.l0 k y0 y1 y2) (course_every_at_gram.l0 (k + 1) y0 y1 y2))
 | 0 => fun _ _ _ r h => by simp [course_every_at_gram.l0] at h
 | k + 1 => by
  have ih0 := course_every_at_gram.mono_l k
  ·
   intro y0 y1 y2
   unfold course_every_at_gram.l0
   repeat' first
   | (with_reducible exact ih0 _ _ _)
   | (with_reducible exact LeO.refl _)
   | (with_reducible exact LeO.none _)
   | (with_reducible refine LeO.ite ?_ ?_)
   | (with_reducible refine LeO.bind ?_ (fun _ => ?_))
   | exact ih0 _ _ _
   | exact LeO.none _
   | refine LeO.ite ?_ ?_
   | refine LeO.bind ?_ (fun _ => ?_)
theorem course_every_at_gram.mono : ∀ a0 k, LeO (course_every_at_gram.f k a0) (course_every_at_gram.f (k + 1) a0) := by
 intro a0 k
 have ih0 := course_every_at_gram.mono_l k
 unfold course_every_at_gram.f
 repeat' first
   | (with_reducible exact ih0 _ _ _)
   | (with_reducible exact LeO.refl _)
   | (with_reducible exact LeO.none _)
   | (with_reducible refine LeO.ite ?_ ?_)
   | (with_reducible refine LeO.bind ?_ (fun _ => ?_))
   | exact ih0 _ _ _
   | exact LeO.none _
   | refine LeO.ite ?_ ?_
   | refine LeO.bind ?_ (fun _ => ?_)
set_option maxHeartbeats 8000000 in
set_option maxRecDepth 100000 in
theorem course_every_at_gram.calls (k : Nat)  (A1 : Option Addr) (c1 : Nat) (l1 : List Int) (r : Bool) (w : World) (hr1 : Kd.C (Kd.int .i64) w A1 l1.length l1) (hc1 : l1.length ≤ c1) (h : course_every_at_gram.f k l1 = some r) :
  Calls Tryd.prog 90 #[.func (.func 92) #[] #[], .slice A1 l1.length c1] w fun e w' => e = .returned (.bool r) ∧ Drawn0 w w' := by
 have HR1 := Aside0.mk (hr1)
 have HC1 := Aside0.mk (hc1)
 clear hr1 hc1
 have H : (course_every_at_gram.l0 k l1 (l1.length : Int) 0) = some r := h
 clear h
 have H' := Aside0.mk H
 clear H
 go_enter Tryd.func90, Tryd.ntmps90
 go_wp2
 go_loopg [9] k (fun kq v9 w' => ∃ (x9_1 : Int), v9 = .int .i64 x9_1 ∧ Aside0 (course_every_at_gram.l0 kq l1 (l1.length : Int) x9_1 = some r) ∧ Aside0 (kq ≤ k) ∧ Drawn0 w w')
 case atStart => exact ⟨(0), (by first | rfl | (simp; done) | (simp [*]; done)), H', ⟨Nat.le_refl _⟩, by repeat (first | exact Drawn0.refl _ | apply Drawn0.step)⟩
 case round =>
  clear H'
  try clear c1
  try clear p2
  obtain ⟨x9_1, rfl, HA, HK1, ⟨m1, rfl⟩⟩ := hrel
  cases gk with
  | zero => exact absurd HA.out (by simp [course_every_at_gram.l0])
  | succ k1 =>
   have H := HA.out
   clear HA
   simp only [course_every_at_gram.l0] at H
   by_cases c3 : x9_1 < (l1.length : Int)
   ·
    rw [if_pos c3] at H
    have c3b0 : decide (x9_1 < (l1.length : Int)) = true := decide_eq_true c3
    clear c3
    by_cases c4 : 0 ≤ x9_1
    ·
     rw [if_pos c4] at H
     have c4b0 : decide (0 ≤ x9_1) = true := decide_eq_true c4
     clear c4
     by_cases c5 : x9_1 < (l1.length : Int)
     ·
      rw [if_pos c5] at H
      have c5b0 : decide (x9_1 < (l1.length : Int)) = true := decide_eq_true c5
      clear c5
      replace H := Option.bind_eq_some_iff.mp H
      obtain ⟨t198, A60, H⟩ := H
      have A6 := Aside0.mk (A60)
      clear A60
      by_cases c7 : t198 = true
      ·
       subst c7
       rw [if_pos rfl] at H
       have H' := Aside0.mk H
       clear H
       have p197 : 0 ≤ (x9_1 : Int) := of_decide_eq_true (by first | (with_reducible assumption) | assumption)
       have q197 : x9_1 < (l1.length : Int) := of_decide_eq_true (by first | (with_reducible assumption) | assumption)
       obtain ⟨ad197, e197, hx197_0⟩ := Kd.at_int HR1.out x9_1 p197 q197
       cases e197
       replace p197 := eq_true p197
       replace q197 := eq_true q197
       go_wp2_with (first | (go_at_call 92; (with_reducible refine (course_gram.calls (rd l1 x9_1) true _ A6.out).mono ?_); rintro e w' ⟨rfl, ⟨nd, rfl⟩⟩))
       go_roundg k1
       case measure => have := HK1.out; omega
       case rel => exact ⟨(wrap64 (x9_1 + 1)), (by first | rfl | (simp; done) | (simp [*]; done)), H', ⟨by have := HK1.out; omega⟩, by repeat (first | exact Drawn0.refl _ | apply Drawn0.step)⟩
      ·
       replace c7 := Bool.eq_false_iff.mpr c7
       subst c7
       rw [if_neg (show ¬ (false = true) by decide)] at H
       obtain rfl := Option.some.inj H
       have p197 : 0 ≤ (x9_1 : Int) := of_decide_eq_true (by first | (with_reducible assumption) | assumption)
       have q197 : x9_1 < (l1.length : Int) := of_decide_eq_true (by first | (with_reducible assumption) | assumption)
       obtain ⟨ad197, e197, hx197_0⟩ := Kd.at_int HR1.out x9_1 p197 q197
       cases e197
       replace p197 := eq_true p197
       replace q197 := eq_true q197
       go_wp2_with (first | (go_at_call 92; (with_reducible refine (course_gram.calls (rd l1 x9_1) false _ A6.out).mono ?_); rintro e w' ⟨rfl, ⟨nd, rfl⟩⟩))
       go_ret
       exact ⟨by first | rfl | (simp; done) | (simp [*]; done), by repeat (first | exact Drawn0.refl _ | apply Drawn0.step)⟩
     ·
      rw [if_neg c5] at H
      exact absurd H (by simp)
    ·
     rw [if_neg c4] at H
     exact absurd H (by simp)
   ·
    rw [if_neg c3] at H
    have c3b0 : decide (x9_1 < (l1.length : Int)) = false := decide_eq_false c3
    clear c3
    obtain rfl := Option.some.inj H
    go_wp2
    go_ret
    exact ⟨by first | rfl | (simp; done) | (simp [*]; done), by repeat (first | exact Drawn0.refl _ | apply Drawn0.step)⟩
mutual
def course_CheckSheet.j0 : Nat → Bool → Int → Int → Int → Int → Int → Int → Int → Int → List (S71) → Option (Int)
 | 0, _, _, _, _, _, _, _, _, _, _ => none
 | k + 1, x3, x200000, x200001, x200002, x200003, x200004, x200005, x200006, x200007, x200008 => if x3 = true then (if x200005 < 1 then (course_CheckSheet.j1 k true x200000 x200001 x200002 x200003 x200004 x200005 x200006 x200007 x200008) else (if x200005 > 1000 then (course_CheckSheet.j1 k true x200000 x200001 x200002 x200003 x200004 x200005 x200006 x200007 x200008) else (if (x200008.length : Int) < 1 then (course_CheckSheet.j1 k true x200000 x200001 x200002 x200003 x200004 x200005 x200006 x200007 x200008) else (course_CheckSheet.j1 k (decide ((x200008.length : Int) > 32)) x200000 x200001 x200002 x200003 x200004 x200005 x200006 x200007 x200008)))) else (course_CheckSheet.j1 k true x200000 x200001 x200002 x200003 x200004 x200005 x200006 x200007 x200008)
def course_CheckSheet.j1 : Nat → Bool → Int → Int → Int → Int → Int → Int → Int → Int → List (S71) → Option (Int)
 | 0, _, _, _, _, _, _, _, _, _, _ => none
 | k + 1, x52, x200000, x200001, x200002, x200003, x200004, x200005, x200006, x200007, x200008 => if x52 = true then (some 12) else (course_CheckSheet.l0 k x200008 (x200008.length : Int) 0)
def course_CheckSheet.l0 : Nat → List (S71) → Int → Int → Option (Int)
 | 0, _, _, _ => none
 | k + 1, x54, x55, x56 => if x56 < x55 then (if 0 ≤ x56 then (if x56 < (x54.length : Int) then ((course_every_at_length.f k (([(rd_T71 x54 x56).f0, (rd_T71 x54 x56).f1, (rd_T71 x54 x56).f3] : List Int))).bind fun t214 => (if t214 = true then (if (wrap64 (((rd_T71 x54 x56).f1) + ((rd_T71 x54 x56).f3))) > ((rd_T71 x54 x56).f0) then (some 12) else ((course_every_at_gram.f k (([(rd_T71 x54 x56).f2, (rd_T71 x54 x56).f4] : List Int))).bind fun t218 => (if t218 = true then (course_CheckSheet.l0 k x54 x55 (wrap64 (x56 + 1))) else (some 12)))) else (some 12))) else (none)) else (none)) else (some 0)
end
def course_CheckSheet.f (k : Nat) (a0_0 : Int) (a0_1 : Int) (a0_2 : Int) (a0_3 : Int) (a0_4 : Int) (a0_5 : Int) (a0_6 : Int) (a0_7 : Int) (l0_8 : List (S71)) : Option (Int) := (course_every_at_number.f k (([a0_0, a0_1, a0_4] : List Int))).bind fun t203 => (if t203 = true then ((course_every_at_day.f k (([a0_2, a0_3, a0_7] : List Int))).bind fun t207 => (if t207 = true then ((course_gram.f a0_6).bind fun t208 => (course_CheckSheet.j0 k t208 a0_0 a0_1 a0_2 a0_3 a0_4 a0_5 a0_6 a0_7 l0_8)) else (course_CheckSheet.j0 k false a0_0 a0_1 a0_2 a0_3 a0_4 a0_5 a0_6 a0_7 l0_8))) else (course_CheckSheet.j0 k false a0_0 a0_1 a0_2 a0_3 a0_4 a0_5 a0_6 a0_7 l0_8))
theorem course_CheckSheet.mono_l : ∀ k, (∀ y0 y1 y2 y3 y4 y5 y6 y7 y8 y9, LeO (course_CheckSheet.j0 k y0 y1 y2 y3 y4 y5 y6 y7 y8 y9) (course_CheckSheet.j0 (k + 1) y0 y1 y2 y3 y4 y5 y6 y7 y8 y9)) ∧ (∀ y0 y1 y2 y3 y4 y5 y6 y7 y8 y9, LeO (course_CheckSheet.j1 k y0 y1 y2 y3 y4 y5 y6 y7 y8 y9) (course_CheckSheet.j1 (k + 1) y0 y1 y2 y3 y4 y5 y6 y7 y8 y9)) ∧ (∀ y0 y1 y2, LeO (course_CheckSheet.l0 k y0 y1 y2) (course_CheckSheet.l0 (k + 1) y0 y1 y2))
 | 0 => ⟨fun _ _ _ _ _ _ _ _ _ _ r h => by simp [course_CheckSheet.j0] at h, fun _ _ _ _ _ _ _ _ _ _ r h => by simp [course_CheckSheet.j1] at h, fun _ _ _ r h => by simp [course_CheckSheet.l0] at h⟩
 | k + 1 => by
  obtain ⟨ih0, ih1, ih2⟩ := course_CheckSheet.mono_l k
  refine ⟨?_, ?_, ?_⟩
  ·
   intro y0 y1 y2 y3 y4 y5 y6 y7 y8 y9
   unfold course_CheckSheet.j0
   repeat' first
   | (with_reducible exact ih0 _ _ _ _ _ _ _ _ _ _)
   | (with_reducible exact ih1 _ _ _ _ _ _ _ _ _ _)
   | (with_reducible exact ih2 _ _ _)
   | (with_reducible exact course_every_at_day.mono _ _)
   | (with_reducible exact course_every_at_gram.mono _ _)
   | (with_reducible exact course_every_at_length.mono _ _)
   | (with_reducible exact course_every_at_number.mono _ _)
   | (with_reducible exact LeO.refl _)
   | (with_reducible exact LeO.none _)
   | (with_reducible refine LeO.ite ?_ ?_)
   | (with_reducible refine LeO.bind ?_ (fun _ => ?_))
   | exact ih0 _ _ _ _ _ _ _ _ _ _
   | exact ih1 _ _ _ _ _ _ _ _ _ _
   | exact ih2 _ _ _
   | exact course_every_at_day.mono _ _
   | exact course_every_at_gram.mono _ _
   | exact course_every_at_length.mono _ _
   | exact course_every_at_number.mono _ _
   | exact LeO.none _
   | refine LeO.ite ?_ ?_
   | refine LeO.bind ?_ (fun _ => ?_)
  ·
   intro y0 y1 y2 y3 y4 y5 y6 y7 y8 y9
   unfold course_CheckSheet.j1
   repeat' first
   | (with_reducible exact ih0 _ _ _ _ _ _ _ _ _ _)
   | (with_reducible exact ih1 _ _ _ _ _ _ _ _ _ _)
   | (with_reducible exact ih2 _ _ _)
   | (with_reducible exact course_every_at_day.mono _ _)
   | (with_reducible exact course_every_at_gram.mono _ _)
   | (with_reducible exact course_every_at_length.mono _ _)
   | (with_reducible exact course_every_at_number.mono _ _)
   | (with_reducible exact LeO.refl _)
   | (with_reducible exact LeO.none _)
   | (with_reducible refine LeO.ite ?_ ?_)
   | (with_reducible refine LeO.bind ?_ (fun _ => ?_))
   | exact ih0 _ _ _ _ _ _ _ _ _ _
   | exact ih1 _ _ _ _ _ _ _ _ _ _
   | exact ih2 _ _ _
   | exact course_every_at_day.mono _ _
   | exact course_every_at_gram.mono _ _
   | exact course_every_at_length.mono _ _
   | exact course_every_at_number.mono _ _
   | exact LeO.none _
   | refine LeO.ite ?_ ?_
   | refine LeO.bind ?_ (fun _ => ?_)
  ·
   intro y0 y1 y2
   unfold course_CheckSheet.l0
   repeat' first
   | (with_reducible exact ih0 _ _ _ _ _ _ _ _ _ _)
   | (with_reducible exact ih1 _ _ _ _ _ _ _ _ _ _)
   | (with_reducible exact ih2 _ _ _)
   | (with_reducible exact course_every_at_day.mono _ _)
   | (with_reducible exact course_every_at_gram.mono _ _)
   | (with_reducible exact course_every_at_length.mono _ _)
   | (with_reducible exact course_every_at_number.mono _ _)
   | (with_reducible exact LeO.refl _)
   | (with_reducible exact LeO.none _)
   | (with_reducible refine LeO.ite ?_ ?_)
   | (with_reducible refine LeO.bind ?_ (fun _ => ?_))
   | exact ih0 _ _ _ _ _ _ _ _ _ _
   | exact ih1 _ _ _ _ _ _ _ _ _ _
   | exact ih2 _ _ _
   | exact course_every_at_day.mono _ _
   | exact course_every_at_gram.mono _ _
   | exact course_every_at_length.mono _ _
   | exact course_every_at_number.mono _ _
   | exact LeO.none _
   | refine LeO.ite ?_ ?_
   | refine LeO.bind ?_ (fun _ => ?_)
theorem course_CheckSheet.mono : ∀ a0 a1 a2 a3 a4 a5 a6 a7 a8 k, LeO (course_CheckSheet.f k a0 a1 a2 a3 a4 a5 a6 a7 a8) (course_CheckSheet.f (k + 1) a0 a1 a2 a3 a4 a5 a6 a7 a8) := by
 intro a0 a1 a2 a3 a4 a5 a6 a7 a8 k
 obtain ⟨ih0, ih1, ih2⟩ := course_CheckSheet.mono_l k
 unfold course_CheckSheet.f
 repeat' first
   | (with_reducible exact ih0 _ _ _ _ _ _ _ _ _ _)
   | (with_reducible exact ih1 _ _ _ _ _ _ _ _ _ _)
   | (with_reducible exact ih2 _ _ _)
   | (with_reducible exact course_every_at_day.mono _ _)
   | (with_reducible exact course_every_at_gram.mono _ _)
   | (with_reducible exact course_every_at_length.mono _ _)
   | (with_reducible exact course_every_at_number.mono _ _)
   | (with_reducible exact LeO.refl _)
   | (with_reducible exact LeO.none _)
   | (with_reducible refine LeO.ite ?_ ?_)
   | (with_reducible refine LeO.bind ?_ (fun _ => ?_))
   | exact ih0 _ _ _ _ _ _ _ _ _ _
   | exact ih1 _ _ _ _ _ _ _ _ _ _
   | exact ih2 _ _ _
   | exact course_every_at_day.mono _ _
   | exact course_every_at_gram.mono _ _
   | exact course_every_at_length.mono _ _
   | exact course_every_at_number.mono _ _
   | exact LeO.none _
   | refine LeO.ite ?_ ?_
   | refine LeO.bind ?_ (fun _ => ?_)
set_option maxHeartbeats 8000000 in
set_option maxRecDepth 100000 in
theorem course_CheckSheet.calls (k : Nat) (a0_0 : Int) (a0_1 : Int) (a0_2 : Int) (a0_3 : Int) (a0_4 : Int) (a0_5 : Int) (a0_6 : Int) (a0_7 : Int) (A0_8 : Option Addr) (c0_8 : Nat) (l0_8 : List (S71)) (r : Int) (w : World) (hr0_8 : Kd.C k71 w A0_8 l0_8.length l0_8) (hc0_8 : l0_8.length ≤ c0_8) (h : course_CheckSheet.f k a0_0 a0_1 a0_2 a0_3 a0_4 a0_5 a0_6 a0_7 l0_8 = some r) :
  Calls Tryd.prog 31 #[.agg #[.int .i64 a0_0, .int .i64 a0_1, .int .i64 a0_2, .int .i64 a0_3, .int .i64 a0_4, .int .i64 a0_5, .int .i64 a0_6, .int .i64 a0_7, .slice A0_8 l0_8.length c0_8]] w fun e w' => e = .returned (.int .i64 r) ∧ Below w.heap.size w w' := by
 have hu47 := Tryd.underlying47
 have hu71 := Tryd.underlying71
 have HR0_8 := Aside0.mk (hr0_8)
 have HC0_8 := Aside0.mk (hc0_8)
 clear hr0_8 hc0_8
 have HB := Bw.mk (Below.refl w.heap.size w)
 have H : ((course_every_at_number.f k (([a0_0, a0_1, a0_4] : List Int))).bind fun t203 => (if t203 = true then ((course_every_at_day.f k (([a0_2, a0_3, a0_7] : List Int))).bind fun t207 => (if t207 = true then ((course_gram.f a0_6).bind fun t208 => (course_CheckSheet.j0 k t208 a0_0 a0_1 a0_2 a0_3 a0_4 a0_5 a0_6 a0_7 l0_8)) else (course_CheckSheet.j0 k false a0_0 a0_1 a0_2 a0_3 a0_4 a0_5 a0_6 a0_7 l0_8))) else (course_CheckSheet.j0 k false a0_0 a0_1 a0_2 a0_3 a0_4 a0_5 a0_6 a0_7 l0_8))) = some r := h
 clear h
 have HC2 := Aside0.mk (H)
 clear H
 go_enter Tryd.func31, Tryd.ntmps31
 go_upto_region 1 with (first | ((with_reducible refine gate_dst (N := 1) rfl ?_); (try (refine gate_guard (by rfl) ?_; dsimp only)); refine bxE 1 47 #[.int .i64 a0_0, .int .i64 a0_1, .int .i64 a0_2, .int .i64 a0_3, .int .i64 a0_4, .int .i64 a0_5, .int .i64 a0_6, .int .i64 a0_7, .slice A0_8 l0_8.length c0_8] (by rfl) (by rfl) (by first | (go_simp; done) | (go_simp; rfl)) ?_; intro gb199 hg w3 hbox hb; have BK199 := Bk.mk (hbox); have GE199 := eB w hg; replace HB := bS w hb; clear hb hbox hg))
 (try simp only [Act.put, List.setIfInBounds_toArray, List.set_cons_zero, List.set_cons_succ])
 go_cut [3] (fun v3 wc => ∃ (kq : Nat) (x3_1 : Bool), v3 = .bool x3_1 ∧ Aside0 (course_CheckSheet.j0 kq x3_1 a0_0 a0_1 a0_2 a0_3 a0_4 a0_5 a0_6 a0_7 l0_8 = some r) ∧ Aside0 (kq ≤ k) ∧ Bk wc gb199 (.cells #[.int .i64 a0_0, .int .i64 a0_1, .int .i64 a0_2, .int .i64 a0_3, .int .i64 a0_4, .int .i64 a0_5, .int .i64 a0_6, .int .i64 a0_7, (.slice A0_8 l0_8.length c0_8)] 47 (0, 0)) ∧ Bw w wc)
 case first =>
  have H := HC2.out
  clear HC2
  obtain ⟨y200, hy200⟩ : ∃ y_ : List Int, y_ = (([a0_0, a0_1, a0_4] : List Int)) := ⟨_, rfl⟩
  replace H : ((course_every_at_number.f k y200).bind fun t203 => (if t203 = true then ((course_every_at_day.f k (([a0_2, a0_3, a0_7] : List Int))).bind fun t207 => (if t207 = true then ((course_gram.f a0_6).bind fun t208 => (course_CheckSheet.j0 k t208 a0_0 a0_1 a0_2 a0_3 a0_4 a0_5 a0_6 a0_7 l0_8)) else (course_CheckSheet.j0 k false a0_0 a0_1 a0_2 a0_3 a0_4 a0_5 a0_6 a0_7 l0_8))) else (course_CheckSheet.j0 k false a0_0 a0_1 a0_2 a0_3 a0_4 a0_5 a0_6 a0_7 l0_8))) = some r := by first | (rw [hy200]; with_reducible exact H) | (have H2_ := (Option.bind_some _ _).symm.trans H; rw [hy200]; with_reducible exact H2_) | (have H2_ := (Option.bind_some _ _).symm.trans H; with_reducible exact H2_) | with_reducible exact H | (rw [hy200]; exact H) | exact H
  have Ny200 := Aside0.mk (hy200)
  clear hy200
  replace H := Option.bind_eq_some_iff.mp H
  obtain ⟨t203, A40, H⟩ := H
  have A4 := Aside0.mk (A40)
  clear A40
  by_cases c5 : t203 = true
  ·
   subst c5
   rw [if_pos rfl] at H
   obtain ⟨y204, hy204⟩ : ∃ y_ : List Int, y_ = (([a0_2, a0_3, a0_7] : List Int)) := ⟨_, rfl⟩
   replace H : ((course_every_at_day.f k y204).bind fun t207 => (if t207 = true then ((course_gram.f a0_6).bind fun t208 => (course_CheckSheet.j0 k t208 a0_0 a0_1 a0_2 a0_3 a0_4 a0_5 a0_6 a0_7 l0_8)) else (course_CheckSheet.j0 k false a0_0 a0_1 a0_2 a0_3 a0_4 a0_5 a0_6 a0_7 l0_8))) = some r := by first | (rw [hy204]; with_reducible exact H) | (have H2_ := (Option.bind_some _ _).symm.trans H; rw [hy204]; with_reducible exact H2_) | (have H2_ := (Option.bind_some _ _).symm.trans H; with_reducible exact H2_) | with_reducible exact H | (rw [hy204]; exact H) | exact H
   have Ny204 := Aside0.mk (hy204)
   clear hy204
   replace H := Option.bind_eq_some_iff.mp H
   obtain ⟨t207, A60, H⟩ := H
   have A6 := Aside0.mk (A60)
   clear A60
   by_cases c7 : t207 = true
   ·
    subst c7
    rw [if_pos rfl] at H
    replace H := Option.bind_eq_some_iff.mp H
    obtain ⟨t208, A80, H⟩ := H
    have A8 := Aside0.mk (A80)
    clear A80
    have H' := Aside0.mk H
    clear H
    obtain ⟨hcz9_0, hcz9_1, hcz9_2, hcz9_3, hcz9_4, hcz9_5, hcz9_6, hcz9_7, hcz9_8, hfz9_0, hfz9_1, hfz9_2, hfz9_3, hfz9_4, hfz9_5, hfz9_6, hfz9_7, hfz9_8⟩ := cz9 BK199
    go_wp2_with (first | ((with_reducible refine gate_dst (N := 12) rfl ?_); (try (refine gate_guard (by rfl) ?_; dsimp only)); refine Kd.R_lit (Kd.int .i64) _ 3 ?hg (N := 12) ?hd (xs := ([a0_0, a0_1, a0_4] : List Int)) (inner := [.int .i64 a0_0, .int .i64 a0_1, .int .i64 a0_4]) (ok := fun _ => True) (okp := fun _ => True) ?hr ?hp (fun _ hk => hk) trivial (Below.refl _ _) (Nat.le_refl _) (by simp) ?_; (case hd => rfl); (case hg => rfl); (case hr => first | (go_simp; done) | (go_simp; rfl)); (case hp => exact (Reps.one (show Kd.M (Kd.int .i64) _ _ _ a0_0 [.int .i64 a0_0] from rfl) (Reps.one (show Kd.M (Kd.int .i64) _ _ _ a0_1 [.int .i64 a0_1] from rfl) (Reps.one (show Kd.M (Kd.int .i64) _ _ _ a0_4 [.int .i64 a0_4] from rfl) (Reps.none _ _))))); intro v201 w10 ho11 hb hg_ hnew_; clear hg_ hnew_; (first | rw [← Ny200.out] at ho11 | (simp only [Int.reduceToNat] at ho11; rw [← Ny200.out] at ho11)); have n0_ := Aside0.mk (Kd.R_lower ho11 (bz w)); replace BK199 := kB gb199 hb; replace HB := bS w hb; have HO202 := n0_; clear n0_ hb ho11; obtain ⟨Ao12, co12, eo12⟩ := Kd.R_slice HO202.out; subst eo12) | ((with_reducible refine gate_callee (f := 90) rfl ?_); refine goesLM (some 13) rfl rfl Tryd.func90 (by kernel_rfl) rfl #[.func (.func 91) #[] #[], .slice Ao12 y200.length co12] rfl (by rfl) ?_; (with_reducible refine (course_every_at_number.calls k  _ _ y200 true _ ?side1 ?side2 A4.out).mono ?_); (case side1 => exact cP (Kd.R_reads' HO202.out).2.2); (case side2 => exact (Kd.R_reads' HO202.out).2.1); rintro e w' ⟨rfl, ⟨nd, rfl⟩⟩; refine ⟨_, rfl, ?_⟩; obtain ⟨hcz13_0, hcz13_1, hcz13_2, hcz13_3, hcz13_4, hcz13_5, hcz13_6, hcz13_7, hcz13_8, hfz13_0, hfz13_1, hfz13_2, hfz13_3, hfz13_4, hfz13_5, hfz13_6, hfz13_7, hfz13_8⟩ := cz9 BK199) | ((with_reducible refine gate_dst (N := 21) rfl ?_); (try (refine gate_guard (by rfl) ?_; dsimp only)); refine Kd.R_lit (Kd.int .i64) _ 3 ?hg (N := 21) ?hd (xs := ([a0_2, a0_3, a0_7] : List Int)) (inner := [.int .i64 a0_2, .int .i64 a0_3, .int .i64 a0_7]) (ok := fun _ => True) (okp := fun _ => True) ?hr ?hp (fun _ hk => hk) trivial (Below.refl _ _) (Nat.le_refl _) (by simp) ?_; (case hd => rfl); (case hg => rfl); (case hr => first | (go_simp; done) | (go_simp; rfl)); (case hp => exact (Reps.one (show Kd.M (Kd.int .i64) _ _ _ a0_2 [.int .i64 a0_2] from rfl) (Reps.one (show Kd.M (Kd.int .i64) _ _ _ a0_3 [.int .i64 a0_3] from rfl) (Reps.one (show Kd.M (Kd.int .i64) _ _ _ a0_7 [.int .i64 a0_7] from rfl) (Reps.none _ _))))); intro v205 w14 ho15 hb hg_ hnew_; clear hg_ hnew_; (first | rw [← Ny204.out] at ho15 | (simp only [Int.reduceToNat] at ho15; rw [← Ny204.out] at ho15)); have n0_ := Aside0.mk (Kd.R_elder' (by (with_reducible repeat (first | apply Kd.R_alloc | apply Kd.R_drewN | apply Kd.R_drew)); exact HO202.out) (Kd.R_base ho15) hb); have n1_ := Aside0.mk (Kd.R_lower (Kd.R_new' ho15 (Kd.R_lt (by (with_reducible repeat (first | apply Kd.R_alloc | apply Kd.R_drewN | apply Kd.R_drew)); exact HO202.out))) (bz w)); replace BK199 := kB gb199 hb; replace HB := bS w hb; clear HO202; have HO202 := n0_; have HO206 := n1_; clear n0_ n1_ hb ho15; obtain ⟨Ao16, co16, eo16⟩ := Kd.R_slice HO206.out; subst eo16) | (go_at_call 90; (with_reducible refine (course_every_at_day.calls k  _ _ y204 true _ ?side1 ?side2 A6.out).mono ?_); (case side1 => exact cP (Kd.R_reads' HO206.out).2.2); (case side2 => exact (Kd.R_reads' HO206.out).2.1); rintro e w' ⟨rfl, ⟨nd, rfl⟩⟩; obtain ⟨hcz17_0, hcz17_1, hcz17_2, hcz17_3, hcz17_4, hcz17_5, hcz17_6, hcz17_7, hcz17_8, hfz17_0, hfz17_1, hfz17_2, hfz17_3, hfz17_4, hfz17_5, hfz17_6, hfz17_7, hfz17_8⟩ := cz9 BK199) | (go_at_call 92; (with_reducible refine (course_gram.calls a0_6 t208 _ A8.out).mono ?_); rintro e w' ⟨rfl, ⟨nd, rfl⟩⟩))
    go_meet
    case rel => exact ⟨_, (t208), (by first | rfl | (simp; done) | (simp [*]; done)), H', ⟨by first | omega | exact Nat.le_refl _⟩, inferInstance, inferInstance⟩
   ·
    replace c7 := Bool.eq_false_iff.mpr c7
    subst c7
    rw [if_neg (show ¬ (false = true) by decide)] at H
    have H' := Aside0.mk H
    clear H
    obtain ⟨hcz18_0, hcz18_1, hcz18_2, hcz18_3, hcz18_4, hcz18_5, hcz18_6, hcz18_7, hcz18_8, hfz18_0, hfz18_1, hfz18_2, hfz18_3, hfz18_4, hfz18_5, hfz18_6, hfz18_7, hfz18_8⟩ := cz9 BK199
    go_wp2_with (first | ((with_reducible refine gate_dst (N := 12) rfl ?_); (try (refine gate_guard (by rfl) ?_; dsimp only)); refine Kd.R_lit (Kd.int .i64) _ 3 ?hg (N := 12) ?hd (xs := ([a0_0, a0_1, a0_4] : List Int)) (inner := [.int .i64 a0_0, .int .i64 a0_1, .int .i64 a0_4]) (ok := fun _ => True) (okp := fun _ => True) ?hr ?hp (fun _ hk => hk) trivial (Below.refl _ _) (Nat.le_refl _) (by simp) ?_; (case hd => rfl); (case hg => rfl); (case hr => first | (go_simp; done) | (go_simp; rfl)); (case hp => exact (Reps.one (show Kd.M (Kd.int .i64) _ _ _ a0_0 [.int .i64 a0_0] from rfl) (Reps.one (show Kd.M (Kd.int .i64) _ _ _ a0_1 [.int .i64 a0_1] from rfl) (Reps.one (show Kd.M (Kd.int .i64) _ _ _ a0_4 [.int .i64 a0_4] from rfl) (Reps.none _ _))))); intro v201 w19 ho20 hb hg_ hnew_; clear hg_ hnew_; (first | rw [← Ny200.out] at ho20 | (simp only [Int.reduceToNat] at ho20; rw [← Ny200.out] at ho20)); have n0_ := Aside0.mk (Kd.R_lower ho20 (bz w)); replace BK199 := kB gb199 hb; replace HB := bS w hb; have HO202 := n0_; clear n0_ hb ho20; obtain ⟨Ao21, co21, eo21⟩ := Kd.R_slice HO202.out; subst eo21) | ((with_reducible refine gate_callee (f := 90) rfl ?_); refine goesLM (some 13) rfl rfl Tryd.func90 (by kernel_rfl) rfl #[.func (.func 91) #[] #[], .slice Ao21 y200.length co21] rfl (by rfl) ?_; (with_reducible refine (course_every_at_number.calls k  _ _ y200 true _ ?side1 ?side2 A4.out).mono ?_); (case side1 => exact cP (Kd.R_reads' HO202.out).2.2); (case side2 => exact (Kd.R_reads' HO202.out).2.1); rintro e w' ⟨rfl, ⟨nd, rfl⟩⟩; refine ⟨_, rfl, ?_⟩; obtain ⟨hcz22_0, hcz22_1, hcz22_2, hcz22_3, hcz22_4, hcz22_5, hcz22_6, hcz22_7, hcz22_8, hfz22_0, hfz22_1, hfz22_2, hfz22_3, hfz22_4, hfz22_5, hfz22_6, hfz22_7, hfz22_8⟩ := cz9 BK199) | ((with_reducible refine gate_dst (N := 21) rfl ?_); (try (refine gate_guard (by rfl) ?_; dsimp only)); refine Kd.R_lit (Kd.int .i64) _ 3 ?hg (N := 21) ?hd (xs := ([a0_2, a0_3, a0_7] : List Int)) (inner := [.int .i64 a0_2, .int .i64 a0_3, .int .i64 a0_7]) (ok := fun _ => True) (okp := fun _ => True) ?hr ?hp (fun _ hk => hk) trivial (Below.refl _ _) (Nat.le_refl _) (by simp) ?_; (case hd => rfl); (case hg => rfl); (case hr => first | (go_simp; done) | (go_simp; rfl)); (case hp => exact (Reps.one (show Kd.M (Kd.int .i64) _ _ _ a0_2 [.int .i64 a0_2] from rfl) (Reps.one (show Kd.M (Kd.int .i64) _ _ _ a0_3 [.int .i64 a0_3] from rfl) (Reps.one (show Kd.M (Kd.int .i64) _ _ _ a0_7 [.int .i64 a0_7] from rfl) (Reps.none _ _))))); intro v205 w23 ho24 hb hg_ hnew_; clear hg_ hnew_; (first | rw [← Ny204.out] at ho24 | (simp only [Int.reduceToNat] at ho24; rw [← Ny204.out] at ho24)); have n0_ := Aside0.mk (Kd.R_elder' (by (with_reducible repeat (first | apply Kd.R_alloc | apply Kd.R_drewN | apply Kd.R_drew)); exact HO202.out) (Kd.R_base ho24) hb); have n1_ := Aside0.mk (Kd.R_lower (Kd.R_new' ho24 (Kd.R_lt (by (with_reducible repeat (first | apply Kd.R_alloc | apply Kd.R_drewN | apply Kd.R_drew)); exact HO202.out))) (bz w)); replace BK199 := kB gb199 hb; replace HB := bS w hb; clear HO202; have HO202 := n0_; have HO206 := n1_; clear n0_ n1_ hb ho24; obtain ⟨Ao25, co25, eo25⟩ := Kd.R_slice HO206.out; subst eo25) | (go_at_call 90; (with_reducible refine (course_every_at_day.calls k  _ _ y204 false _ ?side1 ?side2 A6.out).mono ?_); (case side1 => exact cP (Kd.R_reads' HO206.out).2.2); (case side2 => exact (Kd.R_reads' HO206.out).2.1); rintro e w' ⟨rfl, ⟨nd, rfl⟩⟩))
    go_meet
    case rel => exact ⟨_, (false), (by first | rfl | (simp; done) | (simp [*]; done)), H', ⟨by first | omega | exact Nat.le_refl _⟩, inferInstance, inferInstance⟩
  ·
   replace c5 := Bool.eq_false_iff.mpr c5
   subst c5
   rw [if_neg (show ¬ (false = true) by decide)] at H
   have H' := Aside0.mk H
   clear H
   obtain ⟨hcz26_0, hcz26_1, hcz26_2, hcz26_3, hcz26_4, hcz26_5, hcz26_6, hcz26_7, hcz26_8, hfz26_0, hfz26_1, hfz26_2, hfz26_3, hfz26_4, hfz26_5, hfz26_6, hfz26_7, hfz26_8⟩ := cz9 BK199
   go_wp2_with (first | ((with_reducible refine gate_dst (N := 12) rfl ?_); (try (refine gate_guard (by rfl) ?_; dsimp only)); refine Kd.R_lit (Kd.int .i64) _ 3 ?hg (N := 12) ?hd (xs := ([a0_0, a0_1, a0_4] : List Int)) (inner := [.int .i64 a0_0, .int .i64 a0_1, .int .i64 a0_4]) (ok := fun _ => True) (okp := fun _ => True) ?hr ?hp (fun _ hk => hk) trivial (Below.refl _ _) (Nat.le_refl _) (by simp) ?_; (case hd => rfl); (case hg => rfl); (case hr => first | (go_simp; done) | (go_simp; rfl)); (case hp => exact (Reps.one (show Kd.M (Kd.int .i64) _ _ _ a0_0 [.int .i64 a0_0] from rfl) (Reps.one (show Kd.M (Kd.int .i64) _ _ _ a0_1 [.int .i64 a0_1] from rfl) (Reps.one (show Kd.M (Kd.int .i64) _ _ _ a0_4 [.int .i64 a0_4] from rfl) (Reps.none _ _))))); intro v201 w27 ho28 hb hg_ hnew_; clear hg_ hnew_; (first | rw [← Ny200.out] at ho28 | (simp only [Int.reduceToNat] at ho28; rw [← Ny200.out] at ho28)); have n0_ := Aside0.mk (Kd.R_lower ho28 (bz w)); replace BK199 := kB gb199 hb; replace HB := bS w hb; have HO202 := n0_; clear n0_ hb ho28; obtain ⟨Ao29, co29, eo29⟩ := Kd.R_slice HO202.out; subst eo29) | ((with_reducible refine gate_callee (f := 90) rfl ?_); refine goesLM (some 13) rfl rfl Tryd.func90 (by kernel_rfl) rfl #[.func (.func 91) #[] #[], .slice Ao29 y200.length co29] rfl (by rfl) ?_; (with_reducible refine (course_every_at_number.calls k  _ _ y200 false _ ?side1 ?side2 A4.out).mono ?_); (case side1 => exact cP (Kd.R_reads' HO202.out).2.2); (case side2 => exact (Kd.R_reads' HO202.out).2.1); rintro e w' ⟨rfl, ⟨nd, rfl⟩⟩; refine ⟨_, rfl, ?_⟩))
   go_meet
   case rel => exact ⟨_, (false), (by first | rfl | (simp; done) | (simp [*]; done)), H', ⟨by first | omega | exact Nat.le_refl _⟩, inferInstance, inferInstance⟩
 case rest =>
  clear HC2
  try clear c1
  try clear p2
  try clear c3
  try clear c5
  try clear c7
  try clear c10
  obtain ⟨kq, x3_1, rfl, HA, HJ1, BK199, HB⟩ := hcut
  cases kq with
  | zero => exact absurd HA.out (by simp [course_CheckSheet.j0])
  | succ kj1 =>
   have H := HA.out
   clear HA
   simp only [course_CheckSheet.j0] at H
   have HC30 := Aside0.mk (H)
   clear H
   go_upto_region 2 with (fail)
   go_cut [52] (fun v52 wc => ∃ (kq : Nat) (x52_29 : Bool), v52 = .bool x52_29 ∧ Aside0 (course_CheckSheet.j1 kq x52_29 a0_0 a0_1 a0_2 a0_3 a0_4 a0_5 a0_6 a0_7 l0_8 = some r) ∧ Aside0 (kq ≤ kj1) ∧ Bk wc gb199 (.cells #[.int .i64 a0_0, .int .i64 a0_1, .int .i64 a0_2, .int .i64 a0_3, .int .i64 a0_4, .int .i64 a0_5, .int .i64 a0_6, .int .i64 a0_7, (.slice A0_8 l0_8.length c0_8)] 47 (0, 0)) ∧ Bw w wc)
   case first =>
    have H := HC30.out
    clear HC30
    by_cases c31 : x3_1 = true
    ·
     subst c31
     rw [if_pos rfl] at H
     by_cases c32 : a0_5 < 1
     ·
      rw [if_pos c32] at H
      have c32b0 : decide (a0_5 < 1) = true := decide_eq_true c32
      clear c32
      (first | rw [c32b0] | (simp only [i64_w]; rw [c32b0]) | skip)
      have H' := Aside0.mk H
      clear H
      obtain ⟨hcz33_0, hcz33_1, hcz33_2, hcz33_3, hcz33_4, hcz33_5, hcz33_6, hcz33_7, hcz33_8, hfz33_0, hfz33_1, hfz33_2, hfz33_3, hfz33_4, hfz33_5, hfz33_6, hfz33_7, hfz33_8⟩ := cz9 BK199
      go_wp2
      go_meet
      case rel => exact ⟨_, (true), (by first | rfl | (simp; done) | (simp [*]; done)), H', ⟨by have := HJ1.out; first | omega | exact Nat.le_refl _⟩, inferInstance, inferInstance⟩
     ·
      rw [if_neg c32] at H
      have c32b0 : decide (a0_5 < 1) = false := decide_eq_false c32
      clear c32
      (first | rw [c32b0] | (simp only [i64_w]; rw [c32b0]) | skip)
      by_cases c34 : a0_5 > 1000
      ·
       rw [if_pos c34] at H
       have c34b0 : decide (1000 < a0_5) = true := decide_eq_true c34
       clear c34
       have H' := Aside0.mk H
       clear H
       obtain ⟨hcz35_0, hcz35_1, hcz35_2, hcz35_3, hcz35_4, hcz35_5, hcz35_6, hcz35_7, hcz35_8, hfz35_0, hfz35_1, hfz35_2, hfz35_3, hfz35_4, hfz35_5, hfz35_6, hfz35_7, hfz35_8⟩ := cz9 BK199
       go_wp2
       go_meet
       case rel => exact ⟨_, (true), (by first | rfl | (simp; done) | (simp [*]; done)), H', ⟨by have := HJ1.out; first | omega | exact Nat.le_refl _⟩, inferInstance, inferInstance⟩
      ·
       rw [if_neg c34] at H
       have c34b0 : decide (1000 < a0_5) = false := decide_eq_false c34
       clear c34
       by_cases c36 : (l0_8.length : Int) < 1
       ·
        rw [if_pos c36] at H
        have c36b0 : decide ((l0_8.length : Int) < 1) = true := decide_eq_true c36
        have c36b1 : decide (l0_8.length < 1) = true := decide_eq_true (by omega)
        clear c36
        have H' := Aside0.mk H
        clear H
        obtain ⟨hcz37_0, hcz37_1, hcz37_2, hcz37_3, hcz37_4, hcz37_5, hcz37_6, hcz37_7, hcz37_8, hfz37_0, hfz37_1, hfz37_2, hfz37_3, hfz37_4, hfz37_5, hfz37_6, hfz37_7, hfz37_8⟩ := cz9 BK199
        go_wp2
        go_meet
        case rel => exact ⟨_, (true), (by first | rfl | (simp; done) | (simp [*]; done)), H', ⟨by have := HJ1.out; first | omega | exact Nat.le_refl _⟩, inferInstance, inferInstance⟩
       ·
        rw [if_neg c36] at H
        have c36b0 : decide ((l0_8.length : Int) < 1) = false := decide_eq_false c36
        have c36b1 : decide (l0_8.length < 1) = false := decide_eq_false (by omega)
        clear c36
        have H' := Aside0.mk H
        clear H
        obtain ⟨hcz38_0, hcz38_1, hcz38_2, hcz38_3, hcz38_4, hcz38_5, hcz38_6, hcz38_7, hcz38_8, hfz38_0, hfz38_1, hfz38_2, hfz38_3, hfz38_4, hfz38_5, hfz38_6, hfz38_7, hfz38_8⟩ := cz9 BK199
        go_wp2
        go_meet
        case rel => exact ⟨_, (decide ((l0_8.length : Int) > 32)), (by first | rfl | (simp; done) | (simp [*]; done)), H', ⟨by have := HJ1.out; first | omega | exact Nat.le_refl _⟩, inferInstance, inferInstance⟩
    ·
     replace c31 := Bool.eq_false_iff.mpr c31
     subst c31
     rw [if_neg (show ¬ (false = true) by decide)] at H
     have H' := Aside0.mk H
     clear H
     go_wp2
     go_meet
     case rel => exact ⟨_, (true), (by first | rfl | (simp; done) | (simp [*]; done)), H', ⟨by have := HJ1.out; first | omega | exact Nat.le_refl _⟩, inferInstance, inferInstance⟩
   case rest =>
    clear HC30
    try clear c1
    try clear p2
    try clear c3
    try clear c5
    try clear c7
    try clear c10
    try clear c31
    try clear c32
    try clear c32b0
    try clear c34
    try clear c34b0
    try clear c36
    try clear c36b0
    try clear c36b1
    try clear p2
    obtain ⟨kq, x52_29, rfl, HA, HJ29, BK199, HB⟩ := hcut
    cases kq with
    | zero => exact absurd HA.out (by simp [course_CheckSheet.j1])
    | succ kj29 =>
     have H := HA.out
     clear HA
     simp only [course_CheckSheet.j1] at H
     by_cases c39 : x52_29 = true
     ·
      subst c39
      rw [if_pos rfl] at H
      obtain rfl := Option.some.inj H
      go_wp2
      go_ret
      exact ⟨by first | rfl | (simp [errW_none, errW_some] <;> rfl) | (simp [*, errW_none, errW_some] <;> rfl), bw w⟩
     ·
      replace c39 := Bool.eq_false_iff.mpr c39
      subst c39
      rw [if_neg (show ¬ (false = true) by decide)] at H
      have H' := Aside0.mk H
      clear H
      obtain ⟨hcz40_0, hcz40_1, hcz40_2, hcz40_3, hcz40_4, hcz40_5, hcz40_6, hcz40_7, hcz40_8, hfz40_0, hfz40_1, hfz40_2, hfz40_3, hfz40_4, hfz40_5, hfz40_6, hfz40_7, hfz40_8⟩ := cz9 BK199
      go_wp2
      go_loopg [56] kj29 (fun kq v56 w' => ∃ (x56_3 : Int), v56 = .int .i64 x56_3 ∧ Aside0 (course_CheckSheet.l0 kq l0_8 (l0_8.length : Int) x56_3 = some r) ∧ Aside0 (kq ≤ kj29) ∧ Bk w' gb199 (.cells #[.int .i64 a0_0, .int .i64 a0_1, .int .i64 a0_2, .int .i64 a0_3, .int .i64 a0_4, .int .i64 a0_5, .int .i64 a0_6, .int .i64 a0_7, (.slice A0_8 l0_8.length c0_8)] 47 (0, 0)) ∧ Bw w w')
      case atStart => exact ⟨(0), (by first | rfl | (simp; done) | (simp [*]; done)), H', ⟨Nat.le_refl _⟩, inferInstance, inferInstance⟩
      case round =>
       clear H'
       try clear c1
       try clear p2
       try clear c3
       try clear c5
       try clear c7
       try clear c10
       try clear c31
       try clear c32
       try clear c32b0
       try clear c34
       try clear c34b0
       try clear c36
       try clear c36b0
       try clear c36b1
       try clear c39
       try clear p2
       obtain ⟨x56_3, rfl, HA, HK3, BK199, HB⟩ := hrel
       cases gk with
       | zero => exact absurd HA.out (by simp [course_CheckSheet.l0])
       | succ k3 =>
        have H := HA.out
        clear HA
        simp only [course_CheckSheet.l0] at H
        by_cases c41 : x56_3 < (l0_8.length : Int)
        ·
         rw [if_pos c41] at H
         have c41b0 : decide (x56_3 < (l0_8.length : Int)) = true := decide_eq_true c41
         clear c41
         by_cases c42 : 0 ≤ x56_3
         ·
          rw [if_pos c42] at H
          have c42b0 : decide (0 ≤ x56_3) = true := decide_eq_true c42
          clear c42
          by_cases c43 : x56_3 < (l0_8.length : Int)
          ·
           rw [if_pos c43] at H
           have c43b0 : decide (x56_3 < (l0_8.length : Int)) = true := decide_eq_true c43
           clear c43
           obtain ⟨y211, hy211⟩ : ∃ y_ : List Int, y_ = (([(rd_T71 l0_8 x56_3).f0, (rd_T71 l0_8 x56_3).f1, (rd_T71 l0_8 x56_3).f3] : List Int)) := ⟨_, rfl⟩
           replace H : ((course_every_at_length.f k3 y211).bind fun t214 => (if t214 = true then (if (wrap64 (((rd_T71 l0_8 x56_3).f1) + ((rd_T71 l0_8 x56_3).f3))) > ((rd_T71 l0_8 x56_3).f0) then (some 12) else ((course_every_at_gram.f k3 (([(rd_T71 l0_8 x56_3).f2, (rd_T71 l0_8 x56_3).f4] : List Int))).bind fun t218 => (if t218 = true then (course_CheckSheet.l0 k3 l0_8 (l0_8.length : Int) (wrap64 (x56_3 + 1))) else (some 12)))) else (some 12))) = some r := by first | (rw [hy211]; with_reducible exact H) | (have H2_ := (Option.bind_some _ _).symm.trans H; rw [hy211]; with_reducible exact H2_) | (have H2_ := (Option.bind_some _ _).symm.trans H; with_reducible exact H2_) | with_reducible exact H | (rw [hy211]; exact H) | exact H
           have Ny211 := Aside0.mk (hy211)
           clear hy211
           replace H := Option.bind_eq_some_iff.mp H
           obtain ⟨t214, A440, H⟩ := H
           have A44 := Aside0.mk (A440)
           clear A440
           by_cases c45 : t214 = true
           ·
            subst c45
            rw [if_pos rfl] at H
            by_cases c46 : (wrap64 (((rd_T71 l0_8 x56_3).f1) + ((rd_T71 l0_8 x56_3).f3))) > ((rd_T71 l0_8 x56_3).f0)
            ·
             rw [if_pos c46] at H
             have c46b0 : decide (((rd_T71 l0_8 x56_3).f0) < (wrap64 (((rd_T71 l0_8 x56_3).f1) + ((rd_T71 l0_8 x56_3).f3)))) = true := decide_eq_true c46
             clear c46
             obtain rfl := Option.some.inj H
             have p209 : 0 ≤ (x56_3 : Int) := of_decide_eq_true (by first | (with_reducible assumption) | assumption)
             have q209 : x56_3 < (l0_8.length : Int) := of_decide_eq_true (by first | (with_reducible assumption) | assumption)
             obtain ⟨ad209, e209, hx209_0, hx209_1, hx209_2, hx209_3, hx209_4⟩ := at_T71 HR0_8.out x56_3 p209 q209
             cases e209
             replace hx209_0 := cB HB hx209_0
             replace hx209_1 := cB HB hx209_1
             replace hx209_2 := cB HB hx209_2
             replace hx209_3 := cB HB hx209_3
             replace hx209_4 := cB HB hx209_4
             replace p209 := eq_true p209
             replace q209 := eq_true q209
             go_wp2_with (first | ((with_reducible refine gate_dst (N := 5) rfl ?_); (try (refine gate_guard (by rfl) ?_; dsimp only)); refine bxE 5 71 #[.int .i64 0, .int .i64 0, .int .i64 0, .int .i64 0, .int .i64 0] (by rfl) (by rfl) (by first | (go_simp; done) | (go_simp; rfl)) ?_; intro gb210 hg w47 hbox hb; have BK210 := Bk.mk (hbox); have GE210 := eB w hg; have NB199_210 := nB gb199 hg; replace BK199 := kB gb199 hb; replace HB := bS w hb; clear hb hbox hg; obtain ⟨hnc48, hnb48⟩ := nn NB199_210; obtain ⟨hcz49_0, hcz49_1, hcz49_2, hcz49_3, hcz49_4, hfz49_0, hfz49_1, hfz49_2, hfz49_3, hfz49_4⟩ := cz5 BK210) | ((with_reducible refine gate_dst (N := 66) rfl ?_); (try (refine gate_guard (by rfl) ?_; dsimp only)); refine Kd.R_lit (Kd.int .i64) _ 3 ?hg (N := 66) ?hd (xs := ([(rd_T71 l0_8 x56_3).f0, (rd_T71 l0_8 x56_3).f1, (rd_T71 l0_8 x56_3).f3] : List Int)) (inner := [.int .i64 ((rd_T71 l0_8 x56_3).f0), .int .i64 ((rd_T71 l0_8 x56_3).f1), .int .i64 ((rd_T71 l0_8 x56_3).f3)]) (ok := fun _ => True) (okp := fun _ => True) ?hr ?hp (fun _ hk => hk) trivial (Below.refl _ _) (Nat.le_refl _) (by simp) ?_; (case hd => rfl); (case hg => rfl); (case hr => first | (go_simp; done) | (go_simp; rfl)); (case hp => exact (Reps.one (show Kd.M (Kd.int .i64) _ _ _ ((rd_T71 l0_8 x56_3).f0) [.int .i64 ((rd_T71 l0_8 x56_3).f0)] from rfl) (Reps.one (show Kd.M (Kd.int .i64) _ _ _ ((rd_T71 l0_8 x56_3).f1) [.int .i64 ((rd_T71 l0_8 x56_3).f1)] from rfl) (Reps.one (show Kd.M (Kd.int .i64) _ _ _ ((rd_T71 l0_8 x56_3).f3) [.int .i64 ((rd_T71 l0_8 x56_3).f3)] from rfl) (Reps.none _ _))))); intro v212 w50 ho51 hb hg_ hnew_; clear hg_ hnew_; (first | rw [← Ny211.out] at ho51 | (simp only [Int.reduceToNat] at ho51; rw [← Ny211.out] at ho51)); have n0_ := Aside0.mk (Kd.R_lower ho51 (bz w)); replace BK199 := kB gb199 hb; replace BK210 := kBo gb210 (.cells #[.int .i64 ((rd_T71 l0_8 x56_3).f0), .int .i64 ((rd_T71 l0_8 x56_3).f1), .int .i64 ((rd_T71 l0_8 x56_3).f2), .int .i64 ((rd_T71 l0_8 x56_3).f3), .int .i64 ((rd_T71 l0_8 x56_3).f4)] 71 (0, 0)) hb (by rfl); replace HB := bS w hb; have HO213 := n0_; clear n0_ hb ho51; obtain ⟨Ao52, co52, eo52⟩ := Kd.R_slice HO213.out; subst eo52) | ((with_reducible refine gate_callee (f := 90) rfl ?_); refine goesLM (some 67) rfl rfl Tryd.func90 (by kernel_rfl) rfl #[.func (.func 93) #[] #[], .slice Ao52 y211.length co52] rfl (by rfl) ?_; (with_reducible refine (course_every_at_length.calls k3  _ _ y211 true _ ?side1 ?side2 A44.out).mono ?_); (case side1 => exact cP (Kd.R_reads' HO213.out).2.2); (case side2 => exact (Kd.R_reads' HO213.out).2.1); rintro e w' ⟨rfl, ⟨nd, rfl⟩⟩; refine ⟨_, rfl, ?_⟩; obtain ⟨hcz53_0, hcz53_1, hcz53_2, hcz53_3, hcz53_4, hfz53_0, hfz53_1, hfz53_2, hfz53_3, hfz53_4⟩ := cz5 BK210))
             go_ret
             exact ⟨by first | rfl | (simp [errW_none, errW_some] <;> rfl) | (simp [*, errW_none, errW_some] <;> rfl), bw w⟩
            ·
             rw [if_neg c46] at H
             have c46b0 : decide (((rd_T71 l0_8 x56_3).f0) < (wrap64 (((rd_T71 l0_8 x56_3).f1) + ((rd_T71 l0_8 x56_3).f3)))) = false := decide_eq_false c46
             clear c46
             obtain ⟨y215, hy215⟩ : ∃ y_ : List Int, y_ = (([(rd_T71 l0_8 x56_3).f2, (rd_T71 l0_8 x56_3).f4] : List Int)) := ⟨_, rfl⟩
             replace H : ((course_every_at_gram.f k3 y215).bind fun t218 => (if t218 = true then (course_CheckSheet.l0 k3 l0_8 (l0_8.length : Int) (wrap64 (x56_3 + 1))) else (some 12))) = some r := by first | (rw [hy215]; with_reducible exact H) | (have H2_ := (Option.bind_some _ _).symm.trans H; rw [hy215]; with_reducible exact H2_) | (have H2_ := (Option.bind_some _ _).symm.trans H; with_reducible exact H2_) | with_reducible exact H | (rw [hy215]; exact H) | exact H
             have Ny215 := Aside0.mk (hy215)
             clear hy215
             replace H := Option.bind_eq_some_iff.mp H
             obtain ⟨t218, A540, H⟩ := H
             have A54 := Aside0.mk (A540)
             clear A540
             by_cases c55 : t218 = true
             ·
              subst c55
              rw [if_pos rfl] at H
              have H' := Aside0.mk H
              clear H
              have p209 : 0 ≤ (x56_3 : Int) := of_decide_eq_true (by first | (with_reducible assumption) | assumption)
              have q209 : x56_3 < (l0_8.length : Int) := of_decide_eq_true (by first | (with_reducible assumption) | assumption)
              obtain ⟨ad209, e209, hx209_0, hx209_1, hx209_2, hx209_3, hx209_4⟩ := at_T71 HR0_8.out x56_3 p209 q209
              cases e209
              replace hx209_0 := cB HB hx209_0
              replace hx209_1 := cB HB hx209_1
              replace hx209_2 := cB HB hx209_2
              replace hx209_3 := cB HB hx209_3
              replace hx209_4 := cB HB hx209_4
              replace p209 := eq_true p209
              replace q209 := eq_true q209
              go_wp2_with (first | ((with_reducible refine gate_dst (N := 5) rfl ?_); (try (refine gate_guard (by rfl) ?_; dsimp only)); refine bxE 5 71 #[.int .i64 0, .int .i64 0, .int .i64 0, .int .i64 0, .int .i64 0] (by rfl) (by rfl) (by first | (go_simp; done) | (go_simp; rfl)) ?_; intro gb210 hg w56 hbox hb; have BK210 := Bk.mk (hbox); have GE210 := eB w hg; have NB199_210 := nB gb199 hg; replace BK199 := kB gb199 hb; replace HB := bS w hb; clear hb hbox hg; obtain ⟨hnc57, hnb57⟩ := nn NB199_210; obtain ⟨hcz58_0, hcz58_1, hcz58_2, hcz58_3, hcz58_4, hfz58_0, hfz58_1, hfz58_2, hfz58_3, hfz58_4⟩ := cz5 BK210) | ((with_reducible refine gate_dst (N := 66) rfl ?_); (try (refine gate_guard (by rfl) ?_; dsimp only)); refine Kd.R_lit (Kd.int .i64) _ 3 ?hg (N := 66) ?hd (xs := ([(rd_T71 l0_8 x56_3).f0, (rd_T71 l0_8 x56_3).f1, (rd_T71 l0_8 x56_3).f3] : List Int)) (inner := [.int .i64 ((rd_T71 l0_8 x56_3).f0), .int .i64 ((rd_T71 l0_8 x56_3).f1), .int .i64 ((rd_T71 l0_8 x56_3).f3)]) (ok := fun _ => True) (okp := fun _ => True) ?hr ?hp (fun _ hk => hk) trivial (Below.refl _ _) (Nat.le_refl _) (by simp) ?_; (case hd => rfl); (case hg => rfl); (case hr => first | (go_simp; done) | (go_simp; rfl)); (case hp => exact (Reps.one (show Kd.M (Kd.int .i64) _ _ _ ((rd_T71 l0_8 x56_3).f0) [.int .i64 ((rd_T71 l0_8 x56_3).f0)] from rfl) (Reps.one (show Kd.M (Kd.int .i64) _ _ _ ((rd_T71 l0_8 x56_3).f1) [.int .i64 ((rd_T71 l0_8 x56_3).f1)] from rfl) (Reps.one (show Kd.M (Kd.int .i64) _ _ _ ((rd_T71 l0_8 x56_3).f3) [.int .i64 ((rd_T71 l0_8 x56_3).f3)] from rfl) (Reps.none _ _))))); intro v212 w59 ho60 hb hg_ hnew_; clear hg_ hnew_; (first | rw [← Ny211.out] at ho60 | (simp only [Int.reduceToNat] at ho60; rw [← Ny211.out] at ho60)); have n0_ := Aside0.mk (Kd.R_lower ho60 (bz w)); replace BK199 := kB gb199 hb; replace BK210 := kBo gb210 (.cells #[.int .i64 ((rd_T71 l0_8 x56_3).f0), .int .i64 ((rd_T71 l0_8 x56_3).f1), .int .i64 ((rd_T71 l0_8 x56_3).f2), .int .i64 ((rd_T71 l0_8 x56_3).f3), .int .i64 ((rd_T71 l0_8 x56_3).f4)] 71 (0, 0)) hb (by rfl); replace HB := bS w hb; have HO213 := n0_; clear n0_ hb ho60; obtain ⟨Ao61, co61, eo61⟩ := Kd.R_slice HO213.out; subst eo61) | ((with_reducible refine gate_callee (f := 90) rfl ?_); refine goesLM (some 67) rfl rfl Tryd.func90 (by kernel_rfl) rfl #[.func (.func 93) #[] #[], .slice Ao61 y211.length co61] rfl (by rfl) ?_; (with_reducible refine (course_every_at_length.calls k3  _ _ y211 true _ ?side1 ?side2 A44.out).mono ?_); (case side1 => exact cP (Kd.R_reads' HO213.out).2.2); (case side2 => exact (Kd.R_reads' HO213.out).2.1); rintro e w' ⟨rfl, ⟨nd, rfl⟩⟩; refine ⟨_, rfl, ?_⟩; obtain ⟨hcz62_0, hcz62_1, hcz62_2, hcz62_3, hcz62_4, hfz62_0, hfz62_1, hfz62_2, hfz62_3, hfz62_4⟩ := cz5 BK210) | ((with_reducible refine gate_dst (N := 84) rfl ?_); (try (refine gate_guard (by rfl) ?_; dsimp only)); refine Kd.R_lit (Kd.int .i64) _ 3 ?hg (N := 84) ?hd (xs := ([(rd_T71 l0_8 x56_3).f2, (rd_T71 l0_8 x56_3).f4] : List Int)) (inner := [.int .i64 ((rd_T71 l0_8 x56_3).f2), .int .i64 ((rd_T71 l0_8 x56_3).f4)]) (ok := fun _ => True) (okp := fun _ => True) ?hr ?hp (fun _ hk => hk) trivial (Below.refl _ _) (Nat.le_refl _) (by simp) ?_; (case hd => rfl); (case hg => rfl); (case hr => first | (go_simp; done) | (go_simp; rfl)); (case hp => exact (Reps.one (show Kd.M (Kd.int .i64) _ _ _ ((rd_T71 l0_8 x56_3).f2) [.int .i64 ((rd_T71 l0_8 x56_3).f2)] from rfl) (Reps.one (show Kd.M (Kd.int .i64) _ _ _ ((rd_T71 l0_8 x56_3).f4) [.int .i64 ((rd_T71 l0_8 x56_3).f4)] from rfl) (Reps.none _ _)))); intro v216 w63 ho64 hb hg_ hnew_; clear hg_ hnew_; (first | rw [← Ny215.out] at ho64 | (simp only [Int.reduceToNat] at ho64; rw [← Ny215.out] at ho64)); have n0_ := Aside0.mk (Kd.R_elder' (by (with_reducible repeat (first | apply Kd.R_alloc | apply Kd.R_drewN | apply Kd.R_drew)); exact HO213.out) (Kd.R_base ho64) hb); have n1_ := Aside0.mk (Kd.R_lower (Kd.R_new' ho64 (Kd.R_lt (by (with_reducible repeat (first | apply Kd.R_alloc | apply Kd.R_drewN | apply Kd.R_drew)); exact HO213.out))) (bz w)); replace BK199 := kB gb199 hb; replace BK210 := kB gb210 hb; replace HB := bS w hb; clear HO213; have HO213 := n0_; have HO217 := n1_; clear n0_ n1_ hb ho64; obtain ⟨Ao65, co65, eo65⟩ := Kd.R_slice HO217.out; subst eo65) | (go_at_call 90; (with_reducible refine (course_every_at_gram.calls k3  _ _ y215 true _ ?side1 ?side2 A54.out).mono ?_); (case side1 => exact cP (Kd.R_reads' HO217.out).2.2); (case side2 => exact (Kd.R_reads' HO217.out).2.1); rintro e w' ⟨rfl, ⟨nd, rfl⟩⟩))
              go_roundg k3
              case measure => have := HJ1.out; have := HJ29.out; have := HK3.out; omega
              case rel => exact ⟨(wrap64 (x56_3 + 1)), (by first | rfl | (simp; done) | (simp [*]; done)), H', ⟨by have := HJ1.out; have := HJ29.out; have := HK3.out; omega⟩, inferInstance, inferInstance⟩
             ·
              replace c55 := Bool.eq_false_iff.mpr c55
              subst c55
              rw [if_neg (show ¬ (false = true) by decide)] at H
              obtain rfl := Option.some.inj H
              have p209 : 0 ≤ (x56_3 : Int) := of_decide_eq_true (by first | (with_reducible assumption) | assumption)
              have q209 : x56_3 < (l0_8.length : Int) := of_decide_eq_true (by first | (with_reducible assumption) | assumption)
              obtain ⟨ad209, e209, hx209_0, hx209_1, hx209_2, hx209_3, hx209_4⟩ := at_T71 HR0_8.out x56_3 p209 q209
              cases e209
              replace hx209_0 := cB HB hx209_0
              replace hx209_1 := cB HB hx209_1
              replace hx209_2 := cB HB hx209_2
              replace hx209_3 := cB HB hx209_3
              replace hx209_4 := cB HB hx209_4
              replace p209 := eq_true p209
              replace q209 := eq_true q209
              go_wp2_with (first | ((with_reducible refine gate_dst (N := 5) rfl ?_); (try (refine gate_guard (by rfl) ?_; dsimp only)); refine bxE 5 71 #[.int .i64 0, .int .i64 0, .int .i64 0, .int .i64 0, .int .i64 0] (by rfl) (by rfl) (by first | (go_simp; done) | (go_simp; rfl)) ?_; intro gb210 hg w66 hbox hb; have BK210 := Bk.mk (hbox); have GE210 := eB w hg; have NB199_210 := nB gb199 hg; replace BK199 := kB gb199 hb; replace HB := bS w hb; clear hb hbox hg; obtain ⟨hnc67, hnb67⟩ := nn NB199_210; obtain ⟨hcz68_0, hcz68_1, hcz68_2, hcz68_3, hcz68_4, hfz68_0, hfz68_1, hfz68_2, hfz68_3, hfz68_4⟩ := cz5 BK210) | ((with_reducible refine gate_dst (N := 66) rfl ?_); (try (refine gate_guard (by rfl) ?_; dsimp only)); refine Kd.R_lit (Kd.int .i64) _ 3 ?hg (N := 66) ?hd (xs := ([(rd_T71 l0_8 x56_3).f0, (rd_T71 l0_8 x56_3).f1, (rd_T71 l0_8 x56_3).f3] : List Int)) (inner := [.int .i64 ((rd_T71 l0_8 x56_3).f0), .int .i64 ((rd_T71 l0_8 x56_3).f1), .int .i64 ((rd_T71 l0_8 x56_3).f3)]) (ok := fun _ => True) (okp := fun _ => True) ?hr ?hp (fun _ hk => hk) trivial (Below.refl _ _) (Nat.le_refl _) (by simp) ?_; (case hd => rfl); (case hg => rfl); (case hr => first | (go_simp; done) | (go_simp; rfl)); (case hp => exact (Reps.one (show Kd.M (Kd.int .i64) _ _ _ ((rd_T71 l0_8 x56_3).f0) [.int .i64 ((rd_T71 l0_8 x56_3).f0)] from rfl) (Reps.one (show Kd.M (Kd.int .i64) _ _ _ ((rd_T71 l0_8 x56_3).f1) [.int .i64 ((rd_T71 l0_8 x56_3).f1)] from rfl) (Reps.one (show Kd.M (Kd.int .i64) _ _ _ ((rd_T71 l0_8 x56_3).f3) [.int .i64 ((rd_T71 l0_8 x56_3).f3)] from rfl) (Reps.none _ _))))); intro v212 w69 ho70 hb hg_ hnew_; clear hg_ hnew_; (first | rw [← Ny211.out] at ho70 | (simp only [Int.reduceToNat] at ho70; rw [← Ny211.out] at ho70)); have n0_ := Aside0.mk (Kd.R_lower ho70 (bz w)); replace BK199 := kB gb199 hb; replace BK210 := kBo gb210 (.cells #[.int .i64 ((rd_T71 l0_8 x56_3).f0), .int .i64 ((rd_T71 l0_8 x56_3).f1), .int .i64 ((rd_T71 l0_8 x56_3).f2), .int .i64 ((rd_T71 l0_8 x56_3).f3), .int .i64 ((rd_T71 l0_8 x56_3).f4)] 71 (0, 0)) hb (by rfl); replace HB := bS w hb; have HO213 := n0_; clear n0_ hb ho70; obtain ⟨Ao71, co71, eo71⟩ := Kd.R_slice HO213.out; subst eo71) | ((with_reducible refine gate_callee (f := 90) rfl ?_); refine goesLM (some 67) rfl rfl Tryd.func90 (by kernel_rfl) rfl #[.func (.func 93) #[] #[], .slice Ao71 y211.length co71] rfl (by rfl) ?_; (with_reducible refine (course_every_at_length.calls k3  _ _ y211 true _ ?side1 ?side2 A44.out).mono ?_); (case side1 => exact cP (Kd.R_reads' HO213.out).2.2); (case side2 => exact (Kd.R_reads' HO213.out).2.1); rintro e w' ⟨rfl, ⟨nd, rfl⟩⟩; refine ⟨_, rfl, ?_⟩; obtain ⟨hcz72_0, hcz72_1, hcz72_2, hcz72_3, hcz72_4, hfz72_0, hfz72_1, hfz72_2, hfz72_3, hfz72_4⟩ := cz5 BK210) | ((with_reducible refine gate_dst (N := 84) rfl ?_); (try (refine gate_guard (by rfl) ?_; dsimp only)); refine Kd.R_lit (Kd.int .i64) _ 3 ?hg (N := 84) ?hd (xs := ([(rd_T71 l0_8 x56_3).f2, (rd_T71 l0_8 x56_3).f4] : List Int)) (inner := [.int .i64 ((rd_T71 l0_8 x56_3).f2), .int .i64 ((rd_T71 l0_8 x56_3).f4)]) (ok := fun _ => True) (okp := fun _ => True) ?hr ?hp (fun _ hk => hk) trivial (Below.refl _ _) (Nat.le_refl _) (by simp) ?_; (case hd => rfl); (case hg => rfl); (case hr => first | (go_simp; done) | (go_simp; rfl)); (case hp => exact (Reps.one (show Kd.M (Kd.int .i64) _ _ _ ((rd_T71 l0_8 x56_3).f2) [.int .i64 ((rd_T71 l0_8 x56_3).f2)] from rfl) (Reps.one (show Kd.M (Kd.int .i64) _ _ _ ((rd_T71 l0_8 x56_3).f4) [.int .i64 ((rd_T71 l0_8 x56_3).f4)] from rfl) (Reps.none _ _)))); intro v216 w73 ho74 hb hg_ hnew_; clear hg_ hnew_; (first | rw [← Ny215.out] at ho74 | (simp only [Int.reduceToNat] at ho74; rw [← Ny215.out] at ho74)); have n0_ := Aside0.mk (Kd.R_elder' (by (with_reducible repeat (first | apply Kd.R_alloc | apply Kd.R_drewN | apply Kd.R_drew)); exact HO213.out) (Kd.R_base ho74) hb); have n1_ := Aside0.mk (Kd.R_lower (Kd.R_new' ho74 (Kd.R_lt (by (with_reducible repeat (first | apply Kd.R_alloc | apply Kd.R_drewN | apply Kd.R_drew)); exact HO213.out))) (bz w)); replace BK199 := kB gb199 hb; replace BK210 := kB gb210 hb; replace HB := bS w hb; clear HO213; have HO213 := n0_; have HO217 := n1_; clear n0_ n1_ hb ho74; obtain ⟨Ao75, co75, eo75⟩ := Kd.R_slice HO217.out; subst eo75) | (go_at_call 90; (with_reducible refine (course_every_at_gram.calls k3  _ _ y215 false _ ?side1 ?side2 A54.out).mono ?_); (case side1 => exact cP (Kd.R_reads' HO217.out).2.2); (case side2 => exact (Kd.R_reads' HO217.out).2.1); rintro e w' ⟨rfl, ⟨nd, rfl⟩⟩))
              go_ret
              exact ⟨by first | rfl | (simp [errW_none, errW_some] <;> rfl) | (simp [*, errW_none, errW_some] <;> rfl), bw w⟩
           ·
            replace c45 := Bool.eq_false_iff.mpr c45
            subst c45
            rw [if_neg (show ¬ (false = true) by decide)] at H
            obtain rfl := Option.some.inj H
            have p209 : 0 ≤ (x56_3 : Int) := of_decide_eq_true (by first | (with_reducible assumption) | assumption)
            have q209 : x56_3 < (l0_8.length : Int) := of_decide_eq_true (by first | (with_reducible assumption) | assumption)
            obtain ⟨ad209, e209, hx209_0, hx209_1, hx209_2, hx209_3, hx209_4⟩ := at_T71 HR0_8.out x56_3 p209 q209
            cases e209
            replace hx209_0 := cB HB hx209_0
            replace hx209_1 := cB HB hx209_1
            replace hx209_2 := cB HB hx209_2
            replace hx209_3 := cB HB hx209_3
            replace hx209_4 := cB HB hx209_4
            replace p209 := eq_true p209
            replace q209 := eq_true q209
            go_wp2_with (first | ((with_reducible refine gate_dst (N := 5) rfl ?_); (try (refine gate_guard (by rfl) ?_; dsimp only)); refine bxE 5 71 #[.int .i64 0, .int .i64 0, .int .i64 0, .int .i64 0, .int .i64 0] (by rfl) (by rfl) (by first | (go_simp; done) | (go_simp; rfl)) ?_; intro gb210 hg w76 hbox hb; have BK210 := Bk.mk (hbox); have GE210 := eB w hg; have NB199_210 := nB gb199 hg; replace BK199 := kB gb199 hb; replace HB := bS w hb; clear hb hbox hg; obtain ⟨hnc77, hnb77⟩ := nn NB199_210; obtain ⟨hcz78_0, hcz78_1, hcz78_2, hcz78_3, hcz78_4, hfz78_0, hfz78_1, hfz78_2, hfz78_3, hfz78_4⟩ := cz5 BK210) | ((with_reducible refine gate_dst (N := 66) rfl ?_); (try (refine gate_guard (by rfl) ?_; dsimp only)); refine Kd.R_lit (Kd.int .i64) _ 3 ?hg (N := 66) ?hd (xs := ([(rd_T71 l0_8 x56_3).f0, (rd_T71 l0_8 x56_3).f1, (rd_T71 l0_8 x56_3).f3] : List Int)) (inner := [.int .i64 ((rd_T71 l0_8 x56_3).f0), .int .i64 ((rd_T71 l0_8 x56_3).f1), .int .i64 ((rd_T71 l0_8 x56_3).f3)]) (ok := fun _ => True) (okp := fun _ => True) ?hr ?hp (fun _ hk => hk) trivial (Below.refl _ _) (Nat.le_refl _) (by simp) ?_; (case hd => rfl); (case hg => rfl); (case hr => first | (go_simp; done) | (go_simp; rfl)); (case hp => exact (Reps.one (show Kd.M (Kd.int .i64) _ _ _ ((rd_T71 l0_8 x56_3).f0) [.int .i64 ((rd_T71 l0_8 x56_3).f0)] from rfl) (Reps.one (show Kd.M (Kd.int .i64) _ _ _ ((rd_T71 l0_8 x56_3).f1) [.int .i64 ((rd_T71 l0_8 x56_3).f1)] from rfl) (Reps.one (show Kd.M (Kd.int .i64) _ _ _ ((rd_T71 l0_8 x56_3).f3) [.int .i64 ((rd_T71 l0_8 x56_3).f3)] from rfl) (Reps.none _ _))))); intro v212 w79 ho80 hb hg_ hnew_; clear hg_ hnew_; (first | rw [← Ny211.out] at ho80 | (simp only [Int.reduceToNat] at ho80; rw [← Ny211.out] at ho80)); have n0_ := Aside0.mk (Kd.R_lower ho80 (bz w)); replace BK199 := kB gb199 hb; replace BK210 := kBo gb210 (.cells #[.int .i64 ((rd_T71 l0_8 x56_3).f0), .int .i64 ((rd_T71 l0_8 x56_3).f1), .int .i64 ((rd_T71 l0_8 x56_3).f2), .int .i64 ((rd_T71 l0_8 x56_3).f3), .int .i64 ((rd_T71 l0_8 x56_3).f4)] 71 (0, 0)) hb (by rfl); replace HB := bS w hb; have HO213 := n0_; clear n0_ hb ho80; obtain ⟨Ao81, co81, eo81⟩ := Kd.R_slice HO213.out; subst eo81) | ((with_reducible refine gate_callee (f := 90) rfl ?_); refine goesLM (some 67) rfl rfl Tryd.func90 (by kernel_rfl) rfl #[.func (.func 93) #[] #[], .slice Ao81 y211.length co81] rfl (by rfl) ?_; (with_reducible refine (course_every_at_length.calls k3  _ _ y211 false _ ?side1 ?side2 A44.out).mono ?_); (case side1 => exact cP (Kd.R_reads' HO213.out).2.2); (case side2 => exact (Kd.R_reads' HO213.out).2.1); rintro e w' ⟨rfl, ⟨nd, rfl⟩⟩; refine ⟨_, rfl, ?_⟩))
            go_ret
            exact ⟨by first | rfl | (simp [errW_none, errW_some] <;> rfl) | (simp [*, errW_none, errW_some] <;> rfl), bw w⟩
          ·
           rw [if_neg c43] at H
           exact absurd H (by simp)
         ·
          rw [if_neg c42] at H
          exact absurd H (by simp)
        ·
         rw [if_neg c41] at H
         have c41b0 : decide (x56_3 < (l0_8.length : Int)) = false := decide_eq_false c41
         clear c41
         obtain rfl := Option.some.inj H
         go_wp2
         go_ret
         exact ⟨by first | rfl | (simp [errW_none, errW_some] <;> rfl) | (simp [*, errW_none, errW_some] <;> rfl), bw w⟩
def course_sheetOf.f (k : Nat) (a0_0 : Int) (a0_1 : Int) (l0_2 : List (S26)) (a1_0 : Int) (a1_1 : Int) (a1_2 : Int) (a1_3 : Int) (a1_4 : Int) (a1_5 : Int) (a1_6 : Int) (a1_7 : Int) (l1_8 : List (S71)) (a2 : Int) : Option (Int) := (course_CheckScale.f k a0_0 a0_1 l0_2).bind fun t221 => (if t221 = 0 then ((course_CheckSheet.f k a1_0 a1_1 a1_2 a1_3 a1_4 a1_5 a1_6 a1_7 l1_8).bind fun t222 => (if t222 = 0 then (if a0_0 = a1_4 then ((course_day.f a2).bind fun t223 => (if t223 = true then (some 0) else (some 1))) else (some 1)) else (some t222))) else (some t221))
theorem course_sheetOf.mono : ∀ a0 a1 a2 a3 a4 a5 a6 a7 a8 a9 a10 a11 a12 k, LeO (course_sheetOf.f k a0 a1 a2 a3 a4 a5 a6 a7 a8 a9 a10 a11 a12) (course_sheetOf.f (k + 1) a0 a1 a2 a3 a4 a5 a6 a7 a8 a9 a10 a11 a12) := by
 intro a0 a1 a2 a3 a4 a5 a6 a7 a8 a9 a10 a11 a12 k
 unfold course_sheetOf.f
 repeat' first
   | (with_reducible exact course_CheckScale.mono _ _ _ _)
   | (with_reducible exact course_CheckSheet.mono _ _ _ _ _ _ _ _ _ _)
   | (with_reducible exact LeO.refl _)
   | (with_reducible exact LeO.none _)
   | (with_reducible refine LeO.ite ?_ ?_)
   | (with_reducible refine LeO.bind ?_ (fun _ => ?_))
   | exact course_CheckScale.mono _ _ _ _
   | exact course_CheckSheet.mono _ _ _ _ _ _ _ _ _ _
   | exact LeO.none _
   | refine LeO.ite ?_ ?_
   | refine LeO.bind ?_ (fun _ => ?_)
set_option maxHeartbeats 8000000 in
set_option maxRecDepth 100000 in
theorem course_sheetOf.calls (k : Nat) (a0_0 : Int) (a0_1 : Int) (A0_2 : Option Addr) (c0_2 : Nat) (l0_2 : List (S26)) (a1_0 : Int) (a1_1 : Int) (a1_2 : Int) (a1_3 : Int) (a1_4 : Int) (a1_5 : Int) (a1_6 : Int) (a1_7 : Int) (A1_8 : Option Addr) (c1_8 : Nat) (l1_8 : List (S71)) (a2 : Int) (r : Int) (w : World) (hr0_2 : Kd.C k26 w A0_2 l0_2.length l0_2) (hc0_2 : l0_2.length ≤ c0_2) (hr1_8 : Kd.C k71 w A1_8 l1_8.length l1_8) (hc1_8 : l1_8.length ≤ c1_8) (h : course_sheetOf.f k a0_0 a0_1 l0_2 a1_0 a1_1 a1_2 a1_3 a1_4 a1_5 a1_6 a1_7 l1_8 a2 = some r) :
  Calls Tryd.prog 133 #[.agg #[.int .i64 a0_0, .int .i64 a0_1, .slice A0_2 l0_2.length c0_2], .agg #[.int .i64 a1_0, .int .i64 a1_1, .int .i64 a1_2, .int .i64 a1_3, .int .i64 a1_4, .int .i64 a1_5, .int .i64 a1_6, .int .i64 a1_7, .slice A1_8 l1_8.length c1_8], .int .i64 a2] w fun e w' => e = .returned (.int .i64 r) ∧ Below w.heap.size w w' := by
 have hu24 := Tryd.underlying24
 have hu47 := Tryd.underlying47
 have HR0_2 := Aside0.mk (hr0_2)
 have HC0_2 := Aside0.mk (hc0_2)
 clear hr0_2 hc0_2
 have HR1_8 := Aside0.mk (hr1_8)
 have HC1_8 := Aside0.mk (hc1_8)
 clear hr1_8 hc1_8
 have HB := Bw.mk (Below.refl w.heap.size w)
 have H : ((course_CheckScale.f k a0_0 a0_1 l0_2).bind fun t221 => (if t221 = 0 then ((course_CheckSheet.f k a1_0 a1_1 a1_2 a1_3 a1_4 a1_5 a1_6 a1_7 l1_8).bind fun t222 => (if t222 = 0 then (if a0_0 = a1_4 then ((course_day.f a2).bind fun t223 => (if t223 = true then (some 0) else (some 1))) else (some 1)) else (some t222))) else (some t221))) = some r := h
 clear h
 replace H := Option.bind_eq_some_iff.mp H
 obtain ⟨t221, A40, H⟩ := H
 have A4 := Aside0.mk (A40)
 clear A40
 by_cases c5 : t221 = 0
 ·
  rw [if_pos c5] at H
  have c5b0 : (t221 == 0) = true := beq_iff_eq.mpr c5
  have c5b1 : (t221 != 0) = false := bne_eq_false_iff_eq.mpr c5
  clear c5
  replace H := Option.bind_eq_some_iff.mp H
  obtain ⟨t222, A60, H⟩ := H
  have A6 := Aside0.mk (A60)
  clear A60
  by_cases c7 : t222 = 0
  ·
   rw [if_pos c7] at H
   have c7b0 : (t222 == 0) = true := beq_iff_eq.mpr c7
   have c7b1 : (t222 != 0) = false := bne_eq_false_iff_eq.mpr c7
   clear c7
   by_cases c8 : a0_0 = a1_4
   ·
    rw [if_pos c8] at H
    have c8b0 : (a0_0 == a1_4) = true := beq_iff_eq.mpr c8
    have c8b1 : (a0_0 != a1_4) = false := bne_eq_false_iff_eq.mpr c8
    clear c8
    replace H := Option.bind_eq_some_iff.mp H
    obtain ⟨t223, A90, H⟩ := H
    have A9 := Aside0.mk (A90)
    clear A90
    by_cases c10 : t223 = true
    ·
     subst c10
     rw [if_pos rfl] at H
     obtain rfl := Option.some.inj H
     go_enter Tryd.func133, Tryd.ntmps133
     go_wp2_with (first | ((with_reducible refine gate_dst (N := 3) rfl ?_); refine bxE 3 24 #[.int .i64 a0_0, .int .i64 a0_1, .slice A0_2 l0_2.length c0_2] (by rfl) (by rfl) (by first | (go_simp; done) | (go_simp; rfl)) ?_; intro gb219 hg w11 hbox hb; have BK219 := Bk.mk (hbox); have GE219 := eB w hg; replace HB := bS w hb; clear hb hbox hg) | ((with_reducible refine gate_dst (N := 4) rfl ?_); refine bxE 4 47 #[.int .i64 a1_0, .int .i64 a1_1, .int .i64 a1_2, .int .i64 a1_3, .int .i64 a1_4, .int .i64 a1_5, .int .i64 a1_6, .int .i64 a1_7, .slice A1_8 l1_8.length c1_8] (by rfl) (by rfl) (by first | (go_simp; done) | (go_simp; rfl)) ?_; intro gb220 hg w12 hbox hb; have BK220 := Bk.mk (hbox); have GE220 := eB w hg; replace BK219 := kB gb219 hb; replace HB := bS w hb; clear hb hbox hg; obtain ⟨hcz14_0, hcz14_1, hcz14_2, hfz14_0, hfz14_1, hfz14_2⟩ := cz3 BK219) | ((with_reducible refine gate_callee (f := 20) rfl ?_); refine goesLM (some 10) rfl rfl Tryd.func20 (by kernel_rfl) rfl #[.agg #[.int .i64 a0_0, .int .i64 a0_1, .slice A0_2 l0_2.length c0_2]] rfl (by rfl) ?_; (with_reducible refine (course_CheckScale.calls k a0_0 a0_1 _ _ l0_2 t221 _ ?side1 ?side2 A4.out).mono ?_); (case side1 => exact cP (Kd.C_below HR0_2.out HB.out)); (case side2 => exact HC0_2.out); rintro e w15 ⟨rfl, hb⟩; refine ⟨_, rfl, ?_⟩; replace BK219 := kB gb219 hb; replace BK220 := kB gb220 hb; replace HB := bS w hb; (try clear hb); obtain ⟨hcz16_0, hcz16_1, hcz16_2, hcz16_3, hcz16_4, hcz16_5, hcz16_6, hcz16_7, hcz16_8, hfz16_0, hfz16_1, hfz16_2, hfz16_3, hfz16_4, hfz16_5, hfz16_6, hfz16_7, hfz16_8⟩ := cz9 BK220) | ((with_reducible refine gate_callee (f := 31) rfl ?_); refine goesLM (some 15) rfl rfl Tryd.func31 (by kernel_rfl) rfl #[.agg #[.int .i64 a1_0, .int .i64 a1_1, .int .i64 a1_2, .int .i64 a1_3, .int .i64 a1_4, .int .i64 a1_5, .int .i64 a1_6, .int .i64 a1_7, .slice A1_8 l1_8.length c1_8]] rfl (by rfl) ?_; (with_reducible refine (course_CheckSheet.calls k a1_0 a1_1 a1_2 a1_3 a1_4 a1_5 a1_6 a1_7 _ _ l1_8 t222 _ ?side1 ?side2 A6.out).mono ?_); (case side1 => exact cP (Kd.C_below HR1_8.out HB.out)); (case side2 => exact HC1_8.out); rintro e w17 ⟨rfl, hb⟩; refine ⟨_, rfl, ?_⟩; replace BK219 := kB gb219 hb; replace BK220 := kB gb220 hb; replace HB := bS w hb; (try clear hb); obtain ⟨hcz18_0, hcz18_1, hcz18_2, hfz18_0, hfz18_1, hfz18_2⟩ := cz3 BK219; obtain ⟨hcz19_0, hcz19_1, hcz19_2, hcz19_3, hcz19_4, hcz19_5, hcz19_6, hcz19_7, hcz19_8, hfz19_0, hfz19_1, hfz19_2, hfz19_3, hfz19_4, hfz19_5, hfz19_6, hfz19_7, hfz19_8⟩ := cz9 BK220) | (go_at_call 74; (with_reducible refine (course_day.calls a2 true _ A9.out).mono ?_); rintro e w' ⟨rfl, ⟨nd, rfl⟩⟩))
     go_ret
     exact ⟨by first | rfl | (simp [errW_none, errW_some] <;> rfl) | (simp [*, errW_none, errW_some] <;> rfl), bw w⟩
    ·
     replace c10 := Bool.eq_false_iff.mpr c10
     subst c10
     rw [if_neg (show ¬ (false = true) by decide)] at H
     obtain rfl := Option.some.inj H
     go_enter Tryd.func133, Tryd.ntmps133
     go_wp2_with (first | ((with_reducible refine gate_dst (N := 3) rfl ?_); refine bxE 3 24 #[.int .i64 a0_0, .int .i64 a0_1, .slice A0_2 l0_2.length c0_2] (by rfl) (by rfl) (by first | (go_simp; done) | (go_simp; rfl)) ?_; intro gb219 hg w20 hbox hb; have BK219 := Bk.mk (hbox); have GE219 := eB w hg; replace HB := bS w hb; clear hb hbox hg) | ((with_reducible refine gate_dst (N := 4) rfl ?_); refine bxE 4 47 #[.int .i64 a1_0, .int .i64 a1_1, .int .i64 a1_2, .int .i64 a1_3, .int .i64 a1_4, .int .i64 a1_5, .int .i64 a1_6, .int .i64 a1_7, .slice A1_8 l1_8.length c1_8] (by rfl) (by rfl) (by first | (go_simp; done) | (go_simp; rfl)) ?_; intro gb220 hg w21 hbox hb; have BK220 := Bk.mk (hbox); have GE220 := eB w hg; replace BK219 := kB gb219 hb; replace HB := bS w hb; clear hb hbox hg; obtain ⟨hcz23_0, hcz23_1, hcz23_2, hfz23_0, hfz23_1, hfz23_2⟩ := cz3 BK219) | ((with_reducible refine gate_callee (f := 20) rfl ?_); refine goesLM (some 10) rfl rfl Tryd.func20 (by kernel_rfl) rfl #[.agg #[.int .i64 a0_0, .int .i64 a0_1, .slice A0_2 l0_2.length c0_2]] rfl (by rfl) ?_; (with_reducible refine (course_CheckScale.calls k a0_0 a0_1 _ _ l0_2 t221 _ ?side1 ?side2 A4.out).mono ?_); (case side1 => exact cP (Kd.C_below HR0_2.out HB.out)); (case side2 => exact HC0_2.out); rintro e w24 ⟨rfl, hb⟩; refine ⟨_, rfl, ?_⟩; replace BK219 := kB gb219 hb; replace BK220 := kB gb220 hb; replace HB := bS w hb; (try clear hb); obtain ⟨hcz25_0, hcz25_1, hcz25_2, hcz25_3, hcz25_4, hcz25_5, hcz25_6, hcz25_7, hcz25_8, hfz25_0, hfz25_1, hfz25_2, hfz25_3, hfz25_4, hfz25_5, hfz25_6, hfz25_7, hfz25_8⟩ := cz9 BK220) | ((with_reducible refine gate_callee (f := 31) rfl ?_); refine goesLM (some 15) rfl rfl Tryd.func31 (by kernel_rfl) rfl #[.agg #[.int .i64 a1_0, .int .i64 a1_1, .int .i64 a1_2, .int .i64 a1_3, .int .i64 a1_4, .int .i64 a1_5, .int .i64 a1_6, .int .i64 a1_7, .slice A1_8 l1_8.length c1_8]] rfl (by rfl) ?_; (with_reducible refine (course_CheckSheet.calls k a1_0 a1_1 a1_2 a1_3 a1_4 a1_5 a1_6 a1_7 _ _ l1_8 t222 _ ?side1 ?side2 A6.out).mono ?_); (case side1 => exact cP (Kd.C_below HR1_8.out HB.out)); (case side2 => exact HC1_8.out); rintro e w26 ⟨rfl, hb⟩; refine ⟨_, rfl, ?_⟩; replace BK219 := kB gb219 hb; replace BK220 := kB gb220 hb; replace HB := bS w hb; (try clear hb); obtain ⟨hcz27_0, hcz27_1, hcz27_2, hfz27_0, hfz27_1, hfz27_2⟩ := cz3 BK219; obtain ⟨hcz28_0, hcz28_1, hcz28_2, hcz28_3, hcz28_4, hcz28_5, hcz28_6, hcz28_7, hcz28_8, hfz28_0, hfz28_1, hfz28_2, hfz28_3, hfz28_4, hfz28_5, hfz28_6, hfz28_7, hfz28_8⟩ := cz9 BK220) | (go_at_call 74; (with_reducible refine (course_day.calls a2 false _ A9.out).mono ?_); rintro e w' ⟨rfl, ⟨nd, rfl⟩⟩))
     go_ret
     exact ⟨by first | rfl | (simp [errW_none, errW_some] <;> rfl) | (simp [*, errW_none, errW_some] <;> rfl), bw w⟩
   ·
    rw [if_neg c8] at H
    have c8b0 : (a0_0 == a1_4) = false := beq_eq_false_iff_ne.mpr c8
    have c8b1 : (a0_0 != a1_4) = true := bne_iff_ne.mpr c8
    obtain rfl := Option.some.inj H
    go_enter Tryd.func133, Tryd.ntmps133
    go_wp2_with (first | ((with_reducible refine gate_dst (N := 3) rfl ?_); refine bxE 3 24 #[.int .i64 a0_0, .int .i64 a0_1, .slice A0_2 l0_2.length c0_2] (by rfl) (by rfl) (by first | (go_simp; done) | (go_simp; rfl)) ?_; intro gb219 hg w29 hbox hb; have BK219 := Bk.mk (hbox); have GE219 := eB w hg; replace HB := bS w hb; clear hb hbox hg) | ((with_reducible refine gate_dst (N := 4) rfl ?_); refine bxE 4 47 #[.int .i64 a1_0, .int .i64 a1_1, .int .i64 a1_2, .int .i64 a1_3, .int .i64 a1_4, .int .i64 a1_5, .int .i64 a1_6, .int .i64 a1_7, .slice A1_8 l1_8.length c1_8] (by rfl) (by rfl) (by first | (go_simp; done) | (go_simp; rfl)) ?_; intro gb220 hg w30 hbox hb; have BK220 := Bk.mk (hbox); have GE220 := eB w hg; replace BK219 := kB gb219 hb; replace HB := bS w hb; clear hb hbox hg; obtain ⟨hcz32_0, hcz32_1, hcz32_2, hfz32_0, hfz32_1, hfz32_2⟩ := cz3 BK219) | ((with_reducible refine gate_callee (f := 20) rfl ?_); refine goesLM (some 10) rfl rfl Tryd.func20 (by kernel_rfl) rfl #[.agg #[.int .i64 a0_0, .int .i64 a0_1, .slice A0_2 l0_2.length c0_2]] rfl (by rfl) ?_; (with_reducible refine (course_CheckScale.calls k a0_0 a0_1 _ _ l0_2 t221 _ ?side1 ?side2 A4.out).mono ?_); (case side1 => exact cP (Kd.C_below HR0_2.out HB.out)); (case side2 => exact HC0_2.out); rintro e w33 ⟨rfl, hb⟩; refine ⟨_, rfl, ?_⟩; replace BK219 := kB gb219 hb; replace BK220 := kB gb220 hb; replace HB := bS w hb; (try clear hb); obtain ⟨hcz34_0, hcz34_1, hcz34_2, hcz34_3, hcz34_4, hcz34_5, hcz34_6, hcz34_7, hcz34_8, hfz34_0, hfz34_1, hfz34_2, hfz34_3, hfz34_4, hfz34_5, hfz34_6, hfz34_7, hfz34_8⟩ := cz9 BK220) | ((with_reducible refine gate_callee (f := 31) rfl ?_); refine goesLM (some 15) rfl rfl Tryd.func31 (by kernel_rfl) rfl #[.agg #[.int .i64 a1_0, .int .i64 a1_1, .int .i64 a1_2, .int .i64 a1_3, .int .i64 a1_4, .int .i64 a1_5, .int .i64 a1_6, .int .i64 a1_7, .slice A1_8 l1_8.length c1_8]] rfl (by rfl) ?_; (with_reducible refine (course_CheckSheet.calls k a1_0 a1_1 a1_2 a1_3 a1_4 a1_5 a1_6 a1_7 _ _ l1_8 t222 _ ?side1 ?side2 A6.out).mono ?_); (case side1 => exact cP (Kd.C_below HR1_8.out HB.out)); (case side2 => exact HC1_8.out); rintro e w35 ⟨rfl, hb⟩; refine ⟨_, rfl, ?_⟩; replace BK219 := kB gb219 hb; replace BK220 := kB gb220 hb; replace HB := bS w hb; (try clear hb); obtain ⟨hcz36_0, hcz36_1, hcz36_2, hfz36_0, hfz36_1, hfz36_2⟩ := cz3 BK219; obtain ⟨hcz37_0, hcz37_1, hcz37_2, hcz37_3, hcz37_4, hcz37_5, hcz37_6, hcz37_7, hcz37_8, hfz37_0, hfz37_1, hfz37_2, hfz37_3, hfz37_4, hfz37_5, hfz37_6, hfz37_7, hfz37_8⟩ := cz9 BK220))
    go_ret
    exact ⟨by first | rfl | (simp [errW_none, errW_some] <;> rfl) | (simp [*, errW_none, errW_some] <;> rfl), bw w⟩
  ·
   rw [if_neg c7] at H
   have c7b0 : (t222 == 0) = false := beq_eq_false_iff_ne.mpr c7
   have c7b1 : (t222 != 0) = true := bne_iff_ne.mpr c7
   obtain rfl := Option.some.inj H
   go_enter Tryd.func133, Tryd.ntmps133
   go_wp2_with (first | ((with_reducible refine gate_dst (N := 3) rfl ?_); refine bxE 3 24 #[.int .i64 a0_0, .int .i64 a0_1, .slice A0_2 l0_2.length c0_2] (by rfl) (by rfl) (by first | (go_simp; done) | (go_simp; rfl)) ?_; intro gb219 hg w38 hbox hb; have BK219 := Bk.mk (hbox); have GE219 := eB w hg; replace HB := bS w hb; clear hb hbox hg) | ((with_reducible refine gate_dst (N := 4) rfl ?_); refine bxE 4 47 #[.int .i64 a1_0, .int .i64 a1_1, .int .i64 a1_2, .int .i64 a1_3, .int .i64 a1_4, .int .i64 a1_5, .int .i64 a1_6, .int .i64 a1_7, .slice A1_8 l1_8.length c1_8] (by rfl) (by rfl) (by first | (go_simp; done) | (go_simp; rfl)) ?_; intro gb220 hg w39 hbox hb; have BK220 := Bk.mk (hbox); have GE220 := eB w hg; replace BK219 := kB gb219 hb; replace HB := bS w hb; clear hb hbox hg; obtain ⟨hcz41_0, hcz41_1, hcz41_2, hfz41_0, hfz41_1, hfz41_2⟩ := cz3 BK219) | ((with_reducible refine gate_callee (f := 20) rfl ?_); refine goesLM (some 10) rfl rfl Tryd.func20 (by kernel_rfl) rfl #[.agg #[.int .i64 a0_0, .int .i64 a0_1, .slice A0_2 l0_2.length c0_2]] rfl (by rfl) ?_; (with_reducible refine (course_CheckScale.calls k a0_0 a0_1 _ _ l0_2 t221 _ ?side1 ?side2 A4.out).mono ?_); (case side1 => exact cP (Kd.C_below HR0_2.out HB.out)); (case side2 => exact HC0_2.out); rintro e w42 ⟨rfl, hb⟩; refine ⟨_, rfl, ?_⟩; replace BK219 := kB gb219 hb; replace BK220 := kB gb220 hb; replace HB := bS w hb; (try clear hb); obtain ⟨hcz43_0, hcz43_1, hcz43_2, hcz43_3, hcz43_4, hcz43_5, hcz43_6, hcz43_7, hcz43_8, hfz43_0, hfz43_1, hfz43_2, hfz43_3, hfz43_4, hfz43_5, hfz43_6, hfz43_7, hfz43_8⟩ := cz9 BK220) | ((with_reducible refine gate_callee (f := 31) rfl ?_); refine goesLM (some 15) rfl rfl Tryd.func31 (by kernel_rfl) rfl #[.agg #[.int .i64 a1_0, .int .i64 a1_1, .int .i64 a1_2, .int .i64 a1_3, .int .i64 a1_4, .int .i64 a1_5, .int .i64 a1_6, .int .i64 a1_7, .slice A1_8 l1_8.length c1_8]] rfl (by rfl) ?_; (with_reducible refine (course_CheckSheet.calls k a1_0 a1_1 a1_2 a1_3 a1_4 a1_5 a1_6 a1_7 _ _ l1_8 t222 _ ?side1 ?side2 A6.out).mono ?_); (case side1 => exact cP (Kd.C_below HR1_8.out HB.out)); (case side2 => exact HC1_8.out); rintro e w44 ⟨rfl, hb⟩; refine ⟨_, rfl, ?_⟩; replace BK219 := kB gb219 hb; replace BK220 := kB gb220 hb; replace HB := bS w hb; (try clear hb)))
   go_ret
   exact ⟨by first | rfl | (simp [errW_none, errW_some] <;> rfl) | (simp [*, errW_none, errW_some] <;> rfl), bw w⟩
 ·
  rw [if_neg c5] at H
  have c5b0 : (t221 == 0) = false := beq_eq_false_iff_ne.mpr c5
  have c5b1 : (t221 != 0) = true := bne_iff_ne.mpr c5
  obtain rfl := Option.some.inj H
  go_enter Tryd.func133, Tryd.ntmps133
  go_wp2_with (first | ((with_reducible refine gate_dst (N := 3) rfl ?_); refine bxE 3 24 #[.int .i64 a0_0, .int .i64 a0_1, .slice A0_2 l0_2.length c0_2] (by rfl) (by rfl) (by first | (go_simp; done) | (go_simp; rfl)) ?_; intro gb219 hg w45 hbox hb; have BK219 := Bk.mk (hbox); have GE219 := eB w hg; replace HB := bS w hb; clear hb hbox hg) | ((with_reducible refine gate_dst (N := 4) rfl ?_); refine bxE 4 47 #[.int .i64 a1_0, .int .i64 a1_1, .int .i64 a1_2, .int .i64 a1_3, .int .i64 a1_4, .int .i64 a1_5, .int .i64 a1_6, .int .i64 a1_7, .slice A1_8 l1_8.length c1_8] (by rfl) (by rfl) (by first | (go_simp; done) | (go_simp; rfl)) ?_; intro gb220 hg w46 hbox hb; have BK220 := Bk.mk (hbox); have GE220 := eB w hg; replace BK219 := kB gb219 hb; replace HB := bS w hb; clear hb hbox hg; obtain ⟨hcz48_0, hcz48_1, hcz48_2, hfz48_0, hfz48_1, hfz48_2⟩ := cz3 BK219) | ((with_reducible refine gate_callee (f := 20) rfl ?_); refine goesLM (some 10) rfl rfl Tryd.func20 (by kernel_rfl) rfl #[.agg #[.int .i64 a0_0, .int .i64 a0_1, .slice A0_2 l0_2.length c0_2]] rfl (by rfl) ?_; (with_reducible refine (course_CheckScale.calls k a0_0 a0_1 _ _ l0_2 t221 _ ?side1 ?side2 A4.out).mono ?_); (case side1 => exact cP (Kd.C_below HR0_2.out HB.out)); (case side2 => exact HC0_2.out); rintro e w49 ⟨rfl, hb⟩; refine ⟨_, rfl, ?_⟩; replace BK219 := kB gb219 hb; replace BK220 := kB gb220 hb; replace HB := bS w hb; (try clear hb)))
  go_ret
  exact ⟨by first | rfl | (simp [errW_none, errW_some] <;> rfl) | (simp [*, errW_none, errW_some] <;> rfl), bw w⟩
def course_stakeOf.f (k : Nat) (a0_0 : Int) (a0_1 : Int) (l0_2 : List (S26)) (a1_0 : Int) (a1_1 : Int) (a1_2 : Int) (a1_3 : Int) (a1_4 : Int) (a1_5 : Int) (a1_6 : Int) (a1_7 : Int) (l1_8 : List (S71)) (a2 : Int) (a3 : Int) : Option (Int) := (course_sheetOf.f k a0_0 a0_1 l0_2 a1_0 a1_1 a1_2 a1_3 a1_4 a1_5 a1_6 a1_7 l1_8 a3).bind fun t226 => (if t226 = 0 then (if a2 < 0 then (some 1) else (if a2 ≥ (l1_8.length : Int) then (some 1) else (some 0))) else (some t226))
theorem course_stakeOf.mono : ∀ a0 a1 a2 a3 a4 a5 a6 a7 a8 a9 a10 a11 a12 a13 k, LeO (course_stakeOf.f k a0 a1 a2 a3 a4 a5 a6 a7 a8 a9 a10 a11 a12 a13) (course_stakeOf.f (k + 1) a0 a1 a2 a3 a4 a5 a6 a7 a8 a9 a10 a11 a12 a13) := by
 intro a0 a1 a2 a3 a4 a5 a6 a7 a8 a9 a10 a11 a12 a13 k
 unfold course_stakeOf.f
 repeat' first
   | (with_reducible exact course_sheetOf.mono _ _ _ _ _ _ _ _ _ _ _ _ _ _)
   | (with_reducible exact LeO.refl _)
   | (with_reducible exact LeO.none _)
   | (with_reducible refine LeO.ite ?_ ?_)
   | (with_reducible refine LeO.bind ?_ (fun _ => ?_))
   | exact course_sheetOf.mono _ _ _ _ _ _ _ _ _ _ _ _ _ _
   | exact LeO.none _
   | refine LeO.ite ?_ ?_
   | refine LeO.bind ?_ (fun _ => ?_)
set_option maxHeartbeats 8000000 in
set_option maxRecDepth 100000 in
theorem course_stakeOf.calls (k : Nat) (a0_0 : Int) (a0_1 : Int) (A0_2 : Option Addr) (c0_2 : Nat) (l0_2 : List (S26)) (a1_0 : Int) (a1_1 : Int) (a1_2 : Int) (a1_3 : Int) (a1_4 : Int) (a1_5 : Int) (a1_6 : Int) (a1_7 : Int) (A1_8 : Option Addr) (c1_8 : Nat) (l1_8 : List (S71)) (a2 : Int) (a3 : Int) (r : Int) (w : World) (hr0_2 : Kd.C k26 w A0_2 l0_2.length l0_2) (hc0_2 : l0_2.length ≤ c0_2) (hr1_8 : Kd.C k71 w A1_8 l1_8.length l1_8) (hc1_8 : l1_8.length ≤ c1_8) (h : course_stakeOf.f k a0_0 a0_1 l0_2 a1_0 a1_1 a1_2 a1_3 a1_4 a1_5 a1_6 a1_7 l1_8 a2 a3 = some r) :
  Calls Tryd.prog 104 #[.agg #[.int .i64 a0_0, .int .i64 a0_1, .slice A0_2 l0_2.length c0_2], .agg #[.int .i64 a1_0, .int .i64 a1_1, .int .i64 a1_2, .int .i64 a1_3, .int .i64 a1_4, .int .i64 a1_5, .int .i64 a1_6, .int .i64 a1_7, .slice A1_8 l1_8.length c1_8], .int .i64 a2, .int .i64 a3] w fun e w' => e = .returned (.int .i64 r) ∧ Below w.heap.size w w' := by
 have hu24 := Tryd.underlying24
 have hu47 := Tryd.underlying47
 have HR0_2 := Aside0.mk (hr0_2)
 have HC0_2 := Aside0.mk (hc0_2)
 clear hr0_2 hc0_2
 have HR1_8 := Aside0.mk (hr1_8)
 have HC1_8 := Aside0.mk (hc1_8)
 clear hr1_8 hc1_8
 have HB := Bw.mk (Below.refl w.heap.size w)
 have H : ((course_sheetOf.f k a0_0 a0_1 l0_2 a1_0 a1_1 a1_2 a1_3 a1_4 a1_5 a1_6 a1_7 l1_8 a3).bind fun t226 => (if t226 = 0 then (if a2 < 0 then (some 1) else (if a2 ≥ (l1_8.length : Int) then (some 1) else (some 0))) else (some t226))) = some r := h
 clear h
 replace H := Option.bind_eq_some_iff.mp H
 obtain ⟨t226, A50, H⟩ := H
 have A5 := Aside0.mk (A50)
 clear A50
 by_cases c6 : t226 = 0
 ·
  rw [if_pos c6] at H
  have c6b0 : (t226 == 0) = true := beq_iff_eq.mpr c6
  have c6b1 : (t226 != 0) = false := bne_eq_false_iff_eq.mpr c6
  clear c6
  by_cases c7 : a2 < 0
  ·
   rw [if_pos c7] at H
   have c7b0 : decide (a2 < 0) = true := decide_eq_true c7
   clear c7
   obtain rfl := Option.some.inj H
   go_enter Tryd.func104, Tryd.ntmps104
   go_wp2_with (first | ((with_reducible refine gate_dst (N := 4) rfl ?_); (try (refine gate_guard (by rfl) ?_; dsimp only)); refine bxE 4 24 #[.int .i64 a0_0, .int .i64 a0_1, .slice A0_2 l0_2.length c0_2] (by rfl) (by rfl) (by first | (go_simp; done) | (go_simp; rfl)) ?_; intro gb224 hg w8 hbox hb; have BK224 := Bk.mk (hbox); have GE224 := eB w hg; replace HB := bS w hb; clear hb hbox hg) | ((with_reducible refine gate_dst (N := 5) rfl ?_); (try (refine gate_guard (by rfl) ?_; dsimp only)); refine bxE 5 47 #[.int .i64 a1_0, .int .i64 a1_1, .int .i64 a1_2, .int .i64 a1_3, .int .i64 a1_4, .int .i64 a1_5, .int .i64 a1_6, .int .i64 a1_7, .slice A1_8 l1_8.length c1_8] (by rfl) (by rfl) (by first | (go_simp; done) | (go_simp; rfl)) ?_; intro gb225 hg w9 hbox hb; have BK225 := Bk.mk (hbox); have GE225 := eB w hg; replace BK224 := kB gb224 hb; replace HB := bS w hb; clear hb hbox hg; obtain ⟨hcz11_0, hcz11_1, hcz11_2, hfz11_0, hfz11_1, hfz11_2⟩ := cz3 BK224; obtain ⟨hcz12_0, hcz12_1, hcz12_2, hcz12_3, hcz12_4, hcz12_5, hcz12_6, hcz12_7, hcz12_8, hfz12_0, hfz12_1, hfz12_2, hfz12_3, hfz12_4, hfz12_5, hfz12_6, hfz12_7, hfz12_8⟩ := cz9 BK225) | ((with_reducible refine gate_callee (f := 133) rfl ?_); refine goesLM (some 13) rfl rfl Tryd.func133 (by kernel_rfl) rfl #[.agg #[.int .i64 a0_0, .int .i64 a0_1, .slice A0_2 l0_2.length c0_2], .agg #[.int .i64 a1_0, .int .i64 a1_1, .int .i64 a1_2, .int .i64 a1_3, .int .i64 a1_4, .int .i64 a1_5, .int .i64 a1_6, .int .i64 a1_7, .slice A1_8 l1_8.length c1_8], .int .i64 a3] rfl (by rfl) ?_; (with_reducible refine (course_sheetOf.calls k a0_0 a0_1 _ _ l0_2 a1_0 a1_1 a1_2 a1_3 a1_4 a1_5 a1_6 a1_7 _ _ l1_8 a3 t226 _ ?side1 ?side2 ?side3 ?side4 A5.out).mono ?_); (case side1 => exact cP (Kd.C_below HR0_2.out HB.out)); (case side2 => exact HC0_2.out); (case side3 => exact cP (Kd.C_below HR1_8.out HB.out)); (case side4 => exact HC1_8.out); rintro e w13 ⟨rfl, hb⟩; refine ⟨_, rfl, ?_⟩; replace BK224 := kB gb224 hb; replace BK225 := kB gb225 hb; replace HB := bS w hb; (try clear hb)))
   go_ret
   exact ⟨by first | rfl | (simp [errW_none, errW_some] <;> rfl) | (simp [*, errW_none, errW_some] <;> rfl), bw w⟩
  ·
   rw [if_neg c7] at H
   have c7b0 : decide (a2 < 0) = false := decide_eq_false c7
   clear c7
   by_cases c14 : a2 ≥ (l1_8.length : Int)
   ·
    rw [if_pos c14] at H
    have c14b0 : decide ((l1_8.length : Int) ≤ a2) = true := decide_eq_true c14
    clear c14
    obtain rfl := Option.some.inj H
    go_enter Tryd.func104, Tryd.ntmps104
    go_wp2_with (first | ((with_reducible refine gate_dst (N := 4) rfl ?_); (try (refine gate_guard (by rfl) ?_; dsimp only)); refine bxE 4 24 #[.int .i64 a0_0, .int .i64 a0_1, .slice A0_2 l0_2.length c0_2] (by rfl) (by rfl) (by first | (go_simp; done) | (go_simp; rfl)) ?_; intro gb224 hg w15 hbox hb; have BK224 := Bk.mk (hbox); have GE224 := eB w hg; replace HB := bS w hb; clear hb hbox hg) | ((with_reducible refine gate_dst (N := 5) rfl ?_); (try (refine gate_guard (by rfl) ?_; dsimp only)); refine bxE 5 47 #[.int .i64 a1_0, .int .i64 a1_1, .int .i64 a1_2, .int .i64 a1_3, .int .i64 a1_4, .int .i64 a1_5, .int .i64 a1_6, .int .i64 a1_7, .slice A1_8 l1_8.length c1_8] (by rfl) (by rfl) (by first | (go_simp; done) | (go_simp; rfl)) ?_; intro gb225 hg w16 hbox hb; have BK225 := Bk.mk (hbox); have GE225 := eB w hg; replace BK224 := kB gb224 hb; replace HB := bS w hb; clear hb hbox hg; obtain ⟨hcz18_0, hcz18_1, hcz18_2, hfz18_0, hfz18_1, hfz18_2⟩ := cz3 BK224; obtain ⟨hcz19_0, hcz19_1, hcz19_2, hcz19_3, hcz19_4, hcz19_5, hcz19_6, hcz19_7, hcz19_8, hfz19_0, hfz19_1, hfz19_2, hfz19_3, hfz19_4, hfz19_5, hfz19_6, hfz19_7, hfz19_8⟩ := cz9 BK225) | ((with_reducible refine gate_callee (f := 133) rfl ?_); refine goesLM (some 13) rfl rfl Tryd.func133 (by kernel_rfl) rfl #[.agg #[.int .i64 a0_0, .int .i64 a0_1, .slice A0_2 l0_2.length c0_2], .agg #[.int .i64 a1_0, .int .i64 a1_1, .int .i64 a1_2, .int .i64 a1_3, .int .i64 a1_4, .int .i64 a1_5, .int .i64 a1_6, .int .i64 a1_7, .slice A1_8 l1_8.length c1_8], .int .i64 a3] rfl (by rfl) ?_; (with_reducible refine (course_sheetOf.calls k a0_0 a0_1 _ _ l0_2 a1_0 a1_1 a1_2 a1_3 a1_4 a1_5 a1_6 a1_7 _ _ l1_8 a3 t226 _ ?side1 ?side2 ?side3 ?side4 A5.out).mono ?_); (case side1 => exact cP (Kd.C_below HR0_2.out HB.out)); (case side2 => exact HC0_2.out); (case side3 => exact cP (Kd.C_below HR1_8.out HB.out)); (case side4 => exact HC1_8.out); rintro e w20 ⟨rfl, hb⟩; refine ⟨_, rfl, ?_⟩; replace BK224 := kB gb224 hb; replace BK225 := kB gb225 hb; replace HB := bS w hb; (try clear hb); obtain ⟨hcz21_0, hcz21_1, hcz21_2, hcz21_3, hcz21_4, hcz21_5, hcz21_6, hcz21_7, hcz21_8, hfz21_0, hfz21_1, hfz21_2, hfz21_3, hfz21_4, hfz21_5, hfz21_6, hfz21_7, hfz21_8⟩ := cz9 BK225))
    go_ret
    exact ⟨by first | rfl | (simp [errW_none, errW_some] <;> rfl) | (simp [*, errW_none, errW_some] <;> rfl), bw w⟩
   ·
    rw [if_neg c14] at H
    have c14b0 : decide ((l1_8.length : Int) ≤ a2) = false := decide_eq_false c14
    clear c14
    obtain rfl := Option.some.inj H
    go_enter Tryd.func104, Tryd.ntmps104
    go_wp2_with (first | ((with_reducible refine gate_dst (N := 4) rfl ?_); (try (refine gate_guard (by rfl) ?_; dsimp only)); refine bxE 4 24 #[.int .i64 a0_0, .int .i64 a0_1, .slice A0_2 l0_2.length c0_2] (by rfl) (by rfl) (by first | (go_simp; done) | (go_simp; rfl)) ?_; intro gb224 hg w22 hbox hb; have BK224 := Bk.mk (hbox); have GE224 := eB w hg; replace HB := bS w hb; clear hb hbox hg) | ((with_reducible refine gate_dst (N := 5) rfl ?_); (try (refine gate_guard (by rfl) ?_; dsimp only)); refine bxE 5 47 #[.int .i64 a1_0, .int .i64 a1_1, .int .i64 a1_2, .int .i64 a1_3, .int .i64 a1_4, .int .i64 a1_5, .int .i64 a1_6, .int .i64 a1_7, .slice A1_8 l1_8.length c1_8] (by rfl) (by rfl) (by first | (go_simp; done) | (go_simp; rfl)) ?_; intro gb225 hg w23 hbox hb; have BK225 := Bk.mk (hbox); have GE225 := eB w hg; replace BK224 := kB gb224 hb; replace HB := bS w hb; clear hb hbox hg; obtain ⟨hcz25_0, hcz25_1, hcz25_2, hfz25_0, hfz25_1, hfz25_2⟩ := cz3 BK224; obtain ⟨hcz26_0, hcz26_1, hcz26_2, hcz26_3, hcz26_4, hcz26_5, hcz26_6, hcz26_7, hcz26_8, hfz26_0, hfz26_1, hfz26_2, hfz26_3, hfz26_4, hfz26_5, hfz26_6, hfz26_7, hfz26_8⟩ := cz9 BK225) | ((with_reducible refine gate_callee (f := 133) rfl ?_); refine goesLM (some 13) rfl rfl Tryd.func133 (by kernel_rfl) rfl #[.agg #[.int .i64 a0_0, .int .i64 a0_1, .slice A0_2 l0_2.length c0_2], .agg #[.int .i64 a1_0, .int .i64 a1_1, .int .i64 a1_2, .int .i64 a1_3, .int .i64 a1_4, .int .i64 a1_5, .int .i64 a1_6, .int .i64 a1_7, .slice A1_8 l1_8.length c1_8], .int .i64 a3] rfl (by rfl) ?_; (with_reducible refine (course_sheetOf.calls k a0_0 a0_1 _ _ l0_2 a1_0 a1_1 a1_2 a1_3 a1_4 a1_5 a1_6 a1_7 _ _ l1_8 a3 t226 _ ?side1 ?side2 ?side3 ?side4 A5.out).mono ?_); (case side1 => exact cP (Kd.C_below HR0_2.out HB.out)); (case side2 => exact HC0_2.out); (case side3 => exact cP (Kd.C_below HR1_8.out HB.out)); (case side4 => exact HC1_8.out); rintro e w27 ⟨rfl, hb⟩; refine ⟨_, rfl, ?_⟩; replace BK224 := kB gb224 hb; replace BK225 := kB gb225 hb; replace HB := bS w hb; (try clear hb); obtain ⟨hcz28_0, hcz28_1, hcz28_2, hcz28_3, hcz28_4, hcz28_5, hcz28_6, hcz28_7, hcz28_8, hfz28_0, hfz28_1, hfz28_2, hfz28_3, hfz28_4, hfz28_5, hfz28_6, hfz28_7, hfz28_8⟩ := cz9 BK225))
    go_ret
    exact ⟨by first | rfl | (simp [errW_none, errW_some] <;> rfl) | (simp [*, errW_none, errW_some] <;> rfl), bw w⟩
 ·
  rw [if_neg c6] at H
  have c6b0 : (t226 == 0) = false := beq_eq_false_iff_ne.mpr c6
  have c6b1 : (t226 != 0) = true := bne_iff_ne.mpr c6
  obtain rfl := Option.some.inj H
  go_enter Tryd.func104, Tryd.ntmps104
  go_wp2_with (first | ((with_reducible refine gate_dst (N := 4) rfl ?_); (try (refine gate_guard (by rfl) ?_; dsimp only)); refine bxE 4 24 #[.int .i64 a0_0, .int .i64 a0_1, .slice A0_2 l0_2.length c0_2] (by rfl) (by rfl) (by first | (go_simp; done) | (go_simp; rfl)) ?_; intro gb224 hg w29 hbox hb; have BK224 := Bk.mk (hbox); have GE224 := eB w hg; replace HB := bS w hb; clear hb hbox hg) | ((with_reducible refine gate_dst (N := 5) rfl ?_); (try (refine gate_guard (by rfl) ?_; dsimp only)); refine bxE 5 47 #[.int .i64 a1_0, .int .i64 a1_1, .int .i64 a1_2, .int .i64 a1_3, .int .i64 a1_4, .int .i64 a1_5, .int .i64 a1_6, .int .i64 a1_7, .slice A1_8 l1_8.length c1_8] (by rfl) (by rfl) (by first | (go_simp; done) | (go_simp; rfl)) ?_; intro gb225 hg w30 hbox hb; have BK225 := Bk.mk (hbox); have GE225 := eB w hg; replace BK224 := kB gb224 hb; replace HB := bS w hb; clear hb hbox hg; obtain ⟨hcz32_0, hcz32_1, hcz32_2, hfz32_0, hfz32_1, hfz32_2⟩ := cz3 BK224; obtain ⟨hcz33_0, hcz33_1, hcz33_2, hcz33_3, hcz33_4, hcz33_5, hcz33_6, hcz33_7, hcz33_8, hfz33_0, hfz33_1, hfz33_2, hfz33_3, hfz33_4, hfz33_5, hfz33_6, hfz33_7, hfz33_8⟩ := cz9 BK225) | ((with_reducible refine gate_callee (f := 133) rfl ?_); refine goesLM (some 13) rfl rfl Tryd.func133 (by kernel_rfl) rfl #[.agg #[.int .i64 a0_0, .int .i64 a0_1, .slice A0_2 l0_2.length c0_2], .agg #[.int .i64 a1_0, .int .i64 a1_1, .int .i64 a1_2, .int .i64 a1_3, .int .i64 a1_4, .int .i64 a1_5, .int .i64 a1_6, .int .i64 a1_7, .slice A1_8 l1_8.length c1_8], .int .i64 a3] rfl (by rfl) ?_; (with_reducible refine (course_sheetOf.calls k a0_0 a0_1 _ _ l0_2 a1_0 a1_1 a1_2 a1_3 a1_4 a1_5 a1_6 a1_7 _ _ l1_8 a3 t226 _ ?side1 ?side2 ?side3 ?side4 A5.out).mono ?_); (case side1 => exact cP (Kd.C_below HR0_2.out HB.out)); (case side2 => exact HC0_2.out); (case side3 => exact cP (Kd.C_below HR1_8.out HB.out)); (case side4 => exact HC1_8.out); rintro e w34 ⟨rfl, hb⟩; refine ⟨_, rfl, ?_⟩; replace BK224 := kB gb224 hb; replace BK225 := kB gb225 hb; replace HB := bS w hb; (try clear hb)))
  go_ret
  exact ⟨by first | rfl | (simp [errW_none, errW_some] <;> rfl) | (simp [*, errW_none, errW_some] <;> rfl), bw w⟩
def course_turns.l0 : Nat → List (S71) → Int → Int → Int → Int → Int → Int → Int → Int → Int → Int → List (S71) → Int → Int → Option (Int × Int × Int)
 | 0, _, _, _, _, _, _, _, _, _, _, _, _, _, _ => none
 | k + 1, x19, x20, x21, x229000, x229001, x229002, x229003, x229004, x229005, x229006, x229007, x229008, x233000, x233001 => if x21 < x20 then (if 0 ≤ x21 then (if x21 < (x19.length : Int) then (course_turns.l0 k x19 x20 (wrap64 (x21 + 1)) x229000 x229001 x229002 x229003 x229004 x229005 x229006 x229007 x229008 x233000 (mn x233001 (wrap64 (((rd_T71 x19 x21).f2) - x229006)))) else (none)) else (none)) else (if x233000 > x233001 then (some (0, 0, 13)) else (some (x233000, x233001, 0)))
def course_turns.f (k : Nat) (a0_0 : Int) (a0_1 : Int) (l0_2 : List (S26)) (a1_0 : Int) (a1_1 : Int) (a1_2 : Int) (a1_3 : Int) (a1_4 : Int) (a1_5 : Int) (a1_6 : Int) (a1_7 : Int) (l1_8 : List (S71)) (a2 : Int) : Option (Int × Int × Int) := (course_turn.f k a0_0 a0_1 l0_2 a1_7 a1_2 a2).bind fun bt230 => (course_turns.l0 k l1_8 (l1_8.length : Int) 0 a1_0 a1_1 a1_2 a1_3 a1_4 a1_5 a1_6 a1_7 l1_8 bt230.1 bt230.2)
theorem course_turns.mono_l : ∀ k, (∀ y0 y1 y2 y3 y4 y5 y6 y7 y8 y9 y10 y11 y12 y13, LeO (course_turns.l0 k y0 y1 y2 y3 y4 y5 y6 y7 y8 y9 y10 y11 y12 y13) (course_turns.l0 (k + 1) y0 y1 y2 y3 y4 y5 y6 y7 y8 y9 y10 y11 y12 y13))
 | 0 => fun _ _ _ _ _ _ _ _ _ _ _ _ _ _ r h => by simp [course_turns.l0] at h
 | k + 1 => by
  have ih0 := course_turns.mono_l k
  ·
   intro y0 y1 y2 y3 y4 y5 y6 y7 y8 y9 y10 y11 y12 y13
   unfold course_turns.l0
   repeat' first
   | (with_reducible exact ih0 _ _ _ _ _ _ _ _ _ _ _ _ _ _)
   | (with_reducible exact course_turn.mono _ _ _ _ _ _ _)
   | (with_reducible exact LeO.refl _)
   | (with_reducible exact LeO.none _)
   | (with_reducible refine LeO.ite ?_ ?_)
   | (with_reducible refine LeO.bind ?_ (fun _ => ?_))
   | exact ih0 _ _ _ _ _ _ _ _ _ _ _ _ _ _
   | exact course_turn.mono _ _ _ _ _ _ _
   | exact LeO.none _
   | refine LeO.ite ?_ ?_
   | refine LeO.bind ?_ (fun _ => ?_)
theorem course_turns.mono : ∀ a0 a1 a2 a3 a4 a5 a6 a7 a8 a9 a10 a11 a12 k, LeO (course_turns.f k a0 a1 a2 a3 a4 a5 a6 a7 a8 a9 a10 a11 a12) (course_turns.f (k + 1) a0 a1 a2 a3 a4 a5 a6 a7 a8 a9 a10 a11 a12) := by
 intro a0 a1 a2 a3 a4 a5 a6 a7 a8 a9 a10 a11 a12 k
 have ih0 := course_turns.mono_l k
 unfold course_turns.f
 repeat' first
   | (with_reducible exact ih0 _ _ _ _ _ _ _ _ _ _ _ _ _ _)
   | (with_reducible exact course_turn.mono _ _ _ _ _ _ _)
   | (with_reducible exact LeO.refl _)
   | (with_reducible exact LeO.none _)
   | (with_reducible refine LeO.ite ?_ ?_)
   | (with_reducible refine LeO.bind ?_ (fun _ => ?_))
   | exact ih0 _ _ _ _ _ _ _ _ _ _ _ _ _ _
   | exact course_turn.mono _ _ _ _ _ _ _
   | exact LeO.none _
   | refine LeO.ite ?_ ?_
   | refine LeO.bind ?_ (fun _ => ?_)
set_option maxHeartbeats 8000000 in
set_option maxRecDepth 100000 in
theorem course_turns.calls (k : Nat) (a0_0 : Int) (a0_1 : Int) (A0_2 : Option Addr) (c0_2 : Nat) (l0_2 : List (S26)) (a1_0 : Int) (a1_1 : Int) (a1_2 : Int) (a1_3 : Int) (a1_4 : Int) (a1_5 : Int) (a1_6 : Int) (a1_7 : Int) (A1_8 : Option Addr) (c1_8 : Nat) (l1_8 : List (S71)) (a2 : Int) (r1 : Int) (r2 : Int) (r3 : Int) (w : World) (hr0_2 : Kd.C k26 w A0_2 l0_2.length l0_2) (hc0_2 : l0_2.length ≤ c0_2) (hr1_8 : Kd.C k71 w A1_8 l1_8.length l1_8) (hc1_8 : l1_8.length ≤ c1_8) (h : course_turns.f k a0_0 a0_1 l0_2 a1_0 a1_1 a1_2 a1_3 a1_4 a1_5 a1_6 a1_7 l1_8 a2 = some (r1, r2, r3)) :
  Calls Tryd.prog 105 #[.agg #[.int .i64 a0_0, .int .i64 a0_1, .slice A0_2 l0_2.length c0_2], .agg #[.int .i64 a1_0, .int .i64 a1_1, .int .i64 a1_2, .int .i64 a1_3, .int .i64 a1_4, .int .i64 a1_5, .int .i64 a1_6, .int .i64 a1_7, .slice A1_8 l1_8.length c1_8], .int .i64 a2] w fun e w' => e = .returned (.tuple #[.agg #[.int .i64 r1, .int .i64 r2], .int .i64 r3]) ∧ Below w.heap.size w w' := by
 have hu24 := Tryd.underlying24
 have hu47 := Tryd.underlying47
 have hu103 := Tryd.underlying103
 have hu71 := Tryd.underlying71
 have HR0_2 := Aside0.mk (hr0_2)
 have HC0_2 := Aside0.mk (hc0_2)
 clear hr0_2 hc0_2
 have HR1_8 := Aside0.mk (hr1_8)
 have HC1_8 := Aside0.mk (hc1_8)
 clear hr1_8 hc1_8
 have HB := Bw.mk (Below.refl w.heap.size w)
 have H : ((course_turn.f k a0_0 a0_1 l0_2 a1_7 a1_2 a2).bind fun bt230 => (course_turns.l0 k l1_8 (l1_8.length : Int) 0 a1_0 a1_1 a1_2 a1_3 a1_4 a1_5 a1_6 a1_7 l1_8 bt230.1 bt230.2)) = some (r1, r2, r3) := h
 clear h
 replace H := Option.bind_eq_some_iff.mp H
 obtain ⟨⟨t230, t231⟩, A40, H⟩ := H
 have A4 := Aside0.mk (A40)
 clear A40
 have H' := Aside0.mk H
 clear H
 go_enter Tryd.func105, Tryd.ntmps105
 go_wp2_with (first | ((with_reducible refine gate_dst (N := 3) rfl ?_); refine bxE 3 24 #[.int .i64 a0_0, .int .i64 a0_1, .slice A0_2 l0_2.length c0_2] (by rfl) (by rfl) (by first | (go_simp; done) | (go_simp; rfl)) ?_; intro gb227 hg w5 hbox hb; have BK227 := Bk.mk (hbox); have GE227 := eB w hg; replace HB := bS w hb; clear hb hbox hg) | ((with_reducible refine gate_dst (N := 4) rfl ?_); refine bxE 4 47 #[.int .i64 a1_0, .int .i64 a1_1, .int .i64 a1_2, .int .i64 a1_3, .int .i64 a1_4, .int .i64 a1_5, .int .i64 a1_6, .int .i64 a1_7, .slice A1_8 l1_8.length c1_8] (by rfl) (by rfl) (by first | (go_simp; done) | (go_simp; rfl)) ?_; intro gb228 hg w6 hbox hb; have BK228 := Bk.mk (hbox); have GE228 := eB w hg; have NB227_228 := nB gb227 hg; replace BK227 := kB gb227 hb; replace HB := bS w hb; clear hb hbox hg) | ((with_reducible refine gate_dst (N := 6) rfl ?_); refine bxE 6 103 #[.int .i64 0, .int .i64 0] (by rfl) (by rfl) (by first | (go_simp; done) | (go_simp; rfl)) ?_; intro gb229 hg w7 hbox hb; have BK229 := Bk.mk (hbox); have GE229 := eB w hg; have NB227_229 := nB gb227 hg; have NB228_229 := nB gb228 hg; replace BK227 := kB gb227 hb; replace BK228 := kB gb228 hb; replace HB := bS w hb; clear hb hbox hg; obtain ⟨hnb8, hnc8⟩ := nn NB227_228; obtain ⟨hnb9, hnc9⟩ := nn NB227_229; obtain ⟨hcz10_0, hcz10_1, hcz10_2, hfz10_0, hfz10_1, hfz10_2⟩ := cz3 BK227; obtain ⟨hnb11, hnc11⟩ := nn NB228_229; obtain ⟨hcz12_0, hcz12_1, hcz12_2, hcz12_3, hcz12_4, hcz12_5, hcz12_6, hcz12_7, hcz12_8, hfz12_0, hfz12_1, hfz12_2, hfz12_3, hfz12_4, hfz12_5, hfz12_6, hfz12_7, hfz12_8⟩ := cz9 BK228) | ((with_reducible refine gate_callee (f := 79) rfl ?_); refine goesLM (some 17) rfl rfl Tryd.func79 (by kernel_rfl) rfl #[.agg #[.int .i64 a0_0, .int .i64 a0_1, .slice A0_2 l0_2.length c0_2], .int .i64 a1_7, .int .i64 a1_2, .int .i64 a2] rfl (by rfl) ?_; (with_reducible refine (course_turn.calls k a0_0 a0_1 _ _ l0_2 a1_7 a1_2 a2 t230 t231 _ ?side1 ?side2 A4.out).mono ?_); (case side1 => exact cP (Kd.C_below HR0_2.out HB.out)); (case side2 => exact HC0_2.out); rintro e w13 ⟨rfl, hb⟩; refine ⟨_, rfl, ?_⟩; replace BK227 := kB gb227 hb; replace BK228 := kB gb228 hb; replace BK229 := kB gb229 hb; replace HB := bS w hb; (try clear hb)) | ((with_reducible refine gate_dst (N := 8) rfl ?_); refine bxE 8 103 #[.int .i64 0, .int .i64 0] (by rfl) (by rfl) (by first | (go_simp; done) | (go_simp; rfl)) ?_; intro gb232 hg w14 hbox hb; have BK232 := Bk.mk (hbox); have GE232 := eB w hg; have NB227_232 := nB gb227 hg; have NB228_232 := nB gb228 hg; have NB229_232 := nB gb229 hg; replace BK227 := kB gb227 hb; replace BK228 := kB gb228 hb; replace BK229 := kB gb229 hb; replace HB := bS w hb; clear hb hbox hg; obtain ⟨hnc15, hnb15⟩ := nn NB227_232; obtain ⟨hnc16, hnb16⟩ := nn NB228_232; obtain ⟨hnc17, hnb17⟩ := nn NB229_232; obtain ⟨hcz18_0, hcz18_1, hfz18_0, hfz18_1⟩ := cz2 BK232; obtain ⟨hcz19_0, hcz19_1, hcz19_2, hcz19_3, hcz19_4, hcz19_5, hcz19_6, hcz19_7, hcz19_8, hfz19_0, hfz19_1, hfz19_2, hfz19_3, hfz19_4, hfz19_5, hfz19_6, hfz19_7, hfz19_8⟩ := cz9 BK228))
 go_loopg [21] k (fun kq v21 w' => ∃ (x21_1 : Int) (x233001_1 : Int), v21 = .int .i64 x21_1 ∧ Aside0 (course_turns.l0 kq l1_8 (l1_8.length : Int) x21_1 a1_0 a1_1 a1_2 a1_3 a1_4 a1_5 a1_6 a1_7 l1_8 t230 x233001_1 = some (r1, r2, r3)) ∧ Aside0 (kq ≤ k) ∧ Bk w' gb227 (.cells #[.int .i64 a0_0, .int .i64 a0_1, (.slice A0_2 l0_2.length c0_2)] 24 (0, 0)) ∧ Bk w' gb228 (.cells #[.int .i64 a1_0, .int .i64 a1_1, .int .i64 a1_2, .int .i64 a1_3, .int .i64 a1_4, .int .i64 a1_5, .int .i64 a1_6, .int .i64 a1_7, (.slice A1_8 l1_8.length c1_8)] 47 (0, 0)) ∧ Bk w' gb229 (.cells #[.int .i64 0, .int .i64 0] 103 (0, 0)) ∧ Bk w' gb232 (.cells #[.int .i64 t230, .int .i64 x233001_1] 103 (0, 0)) ∧ Bw w w')
 case atStart => exact ⟨(0), (t231), (by first | rfl | (simp; done) | (simp [*]; done)), H', ⟨Nat.le_refl _⟩, ⟨bko gb227 (by rfl)⟩, ⟨bko gb228 (by rfl)⟩, ⟨bko gb229 (by rfl)⟩, ⟨bko gb232 (by rfl)⟩, inferInstance⟩
 case round =>
  clear H'
  try clear c1
  try clear p2
  try clear c7
  try clear c8
  try clear c9
  try clear c10
  try clear c11
  try clear c15
  try clear c16
  try clear c17
  obtain ⟨x21_1, x233001_1, rfl, HA, HK1, BK227, BK228, BK229, BK232, HB⟩ := hrel
  cases gk with
  | zero => exact absurd HA.out (by simp [course_turns.l0])
  | succ k1 =>
   have H := HA.out
   clear HA
   simp only [course_turns.l0] at H
   by_cases c20 : x21_1 < (l1_8.length : Int)
   ·
    rw [if_pos c20] at H
    have c20b0 : decide (x21_1 < (l1_8.length : Int)) = true := decide_eq_true c20
    clear c20
    by_cases c21 : 0 ≤ x21_1
    ·
     rw [if_pos c21] at H
     have c21b0 : decide (0 ≤ x21_1) = true := decide_eq_true c21
     clear c21
     by_cases c22 : x21_1 < (l1_8.length : Int)
     ·
      rw [if_pos c22] at H
      have c22b0 : decide (x21_1 < (l1_8.length : Int)) = true := decide_eq_true c22
      clear c22
      obtain ⟨ji23, hji23⟩ : ∃ j_ : Int, (mn x233001_1 (wrap64 (((rd_T71 l1_8 x21_1).f2) - a1_6))) = j_ := ⟨_, rfl⟩
      replace H : (course_turns.l0 k1 l1_8 (l1_8.length : Int) (wrap64 (x21_1 + 1)) a1_0 a1_1 a1_2 a1_3 a1_4 a1_5 a1_6 a1_7 l1_8 t230 ji23) = some (r1, r2, r3) := by first | (rw [hji23] at H; exact H) | (simp only [hji23] at H ⊢; exact H)
      have hji23_ : (if (wrap64 (((rd_T71 l1_8 x21_1).f2) - a1_6)) < x233001_1 then (wrap64 (((rd_T71 l1_8 x21_1).f2) - a1_6)) else x233001_1) = ji23 := hji23
      have H' := Aside0.mk H
      clear H
      have p233 : 0 ≤ (x21_1 : Int) := of_decide_eq_true (by first | (with_reducible assumption) | assumption)
      have q233 : x21_1 < (l1_8.length : Int) := of_decide_eq_true (by first | (with_reducible assumption) | assumption)
      obtain ⟨ad233, e233, hx233_0, hx233_1, hx233_2, hx233_3, hx233_4⟩ := at_T71 HR1_8.out x21_1 p233 q233
      cases e233
      replace hx233_0 := cB HB hx233_0
      replace hx233_1 := cB HB hx233_1
      replace hx233_2 := cB HB hx233_2
      replace hx233_3 := cB HB hx233_3
      replace hx233_4 := cB HB hx233_4
      replace p233 := eq_true p233
      replace q233 := eq_true q233
      go_wp2_with (first | ((with_reducible refine gate_dst (N := 10) rfl ?_); refine bxE 10 71 #[.int .i64 0, .int .i64 0, .int .i64 0, .int .i64 0, .int .i64 0] (by rfl) (by rfl) (by first | (go_simp; done) | (go_simp; rfl)) ?_; intro gb234 hg w24 hbox hb; have BK234 := Bk.mk (hbox); have GE234 := eB w hg; have NB227_234 := nB gb227 hg; have NB228_234 := nB gb228 hg; have NB229_234 := nB gb229 hg; have NB232_234 := nB gb232 hg; replace BK227 := kB gb227 hb; replace BK228 := kB gb228 hb; replace BK229 := kB gb229 hb; replace BK232 := kB gb232 hb; replace HB := bS w hb; clear hb hbox hg; obtain ⟨hnc25, hnb25⟩ := nn NB227_234; obtain ⟨hnc26, hnb26⟩ := nn NB228_234; obtain ⟨hnc27, hnb27⟩ := nn NB229_234; obtain ⟨hnc28, hnb28⟩ := nn NB232_234; obtain ⟨hcz29_0, hcz29_1, hcz29_2, hcz29_3, hcz29_4, hfz29_0, hfz29_1, hfz29_2, hfz29_3, hfz29_4⟩ := cz5 BK234; obtain ⟨hnc30, hnb30⟩ := nn NB227_232; obtain ⟨hnc31, hnb31⟩ := nn NB228_232; obtain ⟨hnc32, hnb32⟩ := nn NB229_232; obtain ⟨hcz33_0, hcz33_1, hfz33_0, hfz33_1⟩ := cz2 BK232; obtain ⟨hnc34, hnb34⟩ := nn NB227_228; obtain ⟨hnb35, hnc35⟩ := nn NB228_229; obtain ⟨hcz36_0, hcz36_1, hcz36_2, hcz36_3, hcz36_4, hcz36_5, hcz36_6, hcz36_7, hcz36_8, hfz36_0, hfz36_1, hfz36_2, hfz36_3, hfz36_4, hfz36_5, hfz36_6, hfz36_7, hfz36_8⟩ := cz9 BK228))
      go_roundg k1
      case measure => have := HK1.out; omega
      case rel => exact ⟨(wrap64 (x21_1 + 1)), (ji23), (by first | rfl | (simp; done) | (simp [*]; done)), H', ⟨by have := HK1.out; omega⟩, ⟨bko gb227 (by rfl)⟩, ⟨bko gb228 (by rfl)⟩, ⟨bko gb229 (by rfl)⟩, ⟨bko gb232 (by rfl)⟩, inferInstance⟩
     ·
      rw [if_neg c22] at H
      exact absurd H (by simp)
    ·
     rw [if_neg c21] at H
     exact absurd H (by simp)
   ·
    rw [if_neg c20] at H
    have c20b0 : decide (x21_1 < (l1_8.length : Int)) = false := decide_eq_false c20
    clear c20
    by_cases c37 : t230 > x233001_1
    ·
     rw [if_pos c37] at H
     have c37b0 : decide (x233001_1 < t230) = true := decide_eq_true c37
     clear c37
     simp only [Option.some.injEq, Prod.mk.injEq] at H
     obtain ⟨rfl, rfl, rfl⟩ := H
     obtain ⟨hnc38, hnb38⟩ := nn NB227_232
     obtain ⟨hnc39, hnb39⟩ := nn NB228_232
     obtain ⟨hnc40, hnb40⟩ := nn NB229_232
     obtain ⟨hcz41_0, hcz41_1, hfz41_0, hfz41_1⟩ := cz2 BK232
     obtain ⟨hnc42, hnb42⟩ := nn NB227_229
     obtain ⟨hnc43, hnb43⟩ := nn NB228_229
     obtain ⟨hcz44_0, hcz44_1, hfz44_0, hfz44_1⟩ := cz2 BK229
     go_wp2
     all_goals (refine bodyPost_ret (results_ct rfl _ _ gb229 103 #[.int .i64 0, .int .i64 0] (0, 0) _ rfl (bko gb229 (by rfl)) Tryd.underlying103 rfl (by kernel_rfl)) rfl ?_; exact ⟨by first | rfl | (simp [errW_none, errW_some] <;> rfl) | (simp [*, errW_none, errW_some] <;> rfl), bw w⟩)
    ·
     rw [if_neg c37] at H
     have c37b0 : decide (x233001_1 < t230) = false := decide_eq_false c37
     clear c37
     simp only [Option.some.injEq, Prod.mk.injEq] at H
     obtain ⟨rfl, rfl, rfl⟩ := H
     obtain ⟨hnc45, hnb45⟩ := nn NB227_232
     obtain ⟨hnc46, hnb46⟩ := nn NB228_232
     obtain ⟨hnc47, hnb47⟩ := nn NB229_232
     obtain ⟨hcz48_0, hcz48_1, hfz48_0, hfz48_1⟩ := cz2 BK232
     obtain ⟨hnc49, hnb49⟩ := nn NB227_229
     obtain ⟨hnc50, hnb50⟩ := nn NB228_229
     obtain ⟨hcz51_0, hcz51_1, hfz51_0, hfz51_1⟩ := cz2 BK229
     go_wp2
     all_goals (refine bodyPost_ret (results_ct rfl _ _ gb229 103 #[.int .i64 t230, .int .i64 x233001_1] (0, 0) _ rfl (bko gb229 (by rfl)) Tryd.underlying103 rfl (by kernel_rfl)) rfl ?_; exact ⟨by first | rfl | (simp [errW_none, errW_some] <;> rfl) | (simp [*, errW_none, errW_some] <;> rfl), bw w⟩)
def course_look.f (k : Nat) (a0_0 : Int) (a0_1 : Int) (l0_2 : List (S26)) (a1_0 : Int) (a1_1 : Int) (a1_2 : Int) (a1_3 : Int) (a1_4 : Int) (a1_5 : Int) (a1_6 : Int) (a1_7 : Int) (l1_8 : List (S71)) (a2 : Int) (a3 : Int) : Option (Int × Int × Int) := (course_stakeOf.f k a0_0 a0_1 l0_2 a1_0 a1_1 a1_2 a1_3 a1_4 a1_5 a1_6 a1_7 l1_8 a2 a3).bind fun t238 => (if t238 = 0 then ((course_turns.f k a0_0 a0_1 l0_2 a1_0 a1_1 a1_2 a1_3 a1_4 a1_5 a1_6 a1_7 l1_8 a3).bind fun bt239 => (some (bt239.1, bt239.2.1, bt239.2.2))) else (some (0, 0, t238)))
theorem course_look.mono : ∀ a0 a1 a2 a3 a4 a5 a6 a7 a8 a9 a10 a11 a12 a13 k, LeO (course_look.f k a0 a1 a2 a3 a4 a5 a6 a7 a8 a9 a10 a11 a12 a13) (course_look.f (k + 1) a0 a1 a2 a3 a4 a5 a6 a7 a8 a9 a10 a11 a12 a13) := by
 intro a0 a1 a2 a3 a4 a5 a6 a7 a8 a9 a10 a11 a12 a13 k
 unfold course_look.f
 repeat' first
   | (with_reducible exact course_stakeOf.mono _ _ _ _ _ _ _ _ _ _ _ _ _ _ _)
   | (with_reducible exact course_turns.mono _ _ _ _ _ _ _ _ _ _ _ _ _ _)
   | (with_reducible exact LeO.refl _)
   | (with_reducible exact LeO.none _)
   | (with_reducible refine LeO.ite ?_ ?_)
   | (with_reducible refine LeO.bind ?_ (fun _ => ?_))
   | exact course_stakeOf.mono _ _ _ _ _ _ _ _ _ _ _ _ _ _ _
   | exact course_turns.mono _ _ _ _ _ _ _ _ _ _ _ _ _ _
   | exact LeO.none _
   | refine LeO.ite ?_ ?_
   | refine LeO.bind ?_ (fun _ => ?_)
set_option maxHeartbeats 8000000 in
set_option maxRecDepth 100000 in
theorem course_look.calls (k : Nat) (a0_0 : Int) (a0_1 : Int) (A0_2 : Option Addr) (c0_2 : Nat) (l0_2 : List (S26)) (a1_0 : Int) (a1_1 : Int) (a1_2 : Int) (a1_3 : Int) (a1_4 : Int) (a1_5 : Int) (a1_6 : Int) (a1_7 : Int) (A1_8 : Option Addr) (c1_8 : Nat) (l1_8 : List (S71)) (a2 : Int) (a3 : Int) (r1 : Int) (r2 : Int) (r3 : Int) (w : World) (hr0_2 : Kd.C k26 w A0_2 l0_2.length l0_2) (hc0_2 : l0_2.length ≤ c0_2) (hr1_8 : Kd.C k71 w A1_8 l1_8.length l1_8) (hc1_8 : l1_8.length ≤ c1_8) (h : course_look.f k a0_0 a0_1 l0_2 a1_0 a1_1 a1_2 a1_3 a1_4 a1_5 a1_6 a1_7 l1_8 a2 a3 = some (r1, r2, r3)) :
  Calls Tryd.prog 81 #[.agg #[.int .i64 a0_0, .int .i64 a0_1, .slice A0_2 l0_2.length c0_2], .agg #[.int .i64 a1_0, .int .i64 a1_1, .int .i64 a1_2, .int .i64 a1_3, .int .i64 a1_4, .int .i64 a1_5, .int .i64 a1_6, .int .i64 a1_7, .slice A1_8 l1_8.length c1_8], .int .i64 a2, .int .i64 a3] w fun e w' => e = .returned (.tuple #[.agg #[.int .i64 r1, .int .i64 r2], .int .i64 r3]) ∧ Below w.heap.size w w' := by
 have hu24 := Tryd.underlying24
 have hu47 := Tryd.underlying47
 have hu103 := Tryd.underlying103
 have HR0_2 := Aside0.mk (hr0_2)
 have HC0_2 := Aside0.mk (hc0_2)
 clear hr0_2 hc0_2
 have HR1_8 := Aside0.mk (hr1_8)
 have HC1_8 := Aside0.mk (hc1_8)
 clear hr1_8 hc1_8
 have HB := Bw.mk (Below.refl w.heap.size w)
 have H : ((course_stakeOf.f k a0_0 a0_1 l0_2 a1_0 a1_1 a1_2 a1_3 a1_4 a1_5 a1_6 a1_7 l1_8 a2 a3).bind fun t238 => (if t238 = 0 then ((course_turns.f k a0_0 a0_1 l0_2 a1_0 a1_1 a1_2 a1_3 a1_4 a1_5 a1_6 a1_7 l1_8 a3).bind fun bt239 => (some (bt239.1, bt239.2.1, bt239.2.2))) else (some (0, 0, t238)))) = some (r1, r2, r3) := h
 clear h
 replace H := Option.bind_eq_some_iff.mp H
 obtain ⟨t238, A50, H⟩ := H
 have A5 := Aside0.mk (A50)
 clear A50
 by_cases c6 : t238 = 0
 ·
  rw [if_pos c6] at H
  have c6b0 : (t238 == 0) = true := beq_iff_eq.mpr c6
  have c6b1 : (t238 != 0) = false := bne_eq_false_iff_eq.mpr c6
  clear c6
  replace H := Option.bind_eq_some_iff.mp H
  obtain ⟨⟨t239, t240, t241⟩, A70, H⟩ := H
  have A7 := Aside0.mk (A70)
  clear A70
  simp only [Option.some.injEq, Prod.mk.injEq] at H
  obtain ⟨rfl, rfl, rfl⟩ := H
  go_enter Tryd.func81, Tryd.ntmps81
  go_wp2_with (first | ((with_reducible refine gate_dst (N := 4) rfl ?_); refine bxE 4 24 #[.int .i64 a0_0, .int .i64 a0_1, .slice A0_2 l0_2.length c0_2] (by rfl) (by rfl) (by first | (go_simp; done) | (go_simp; rfl)) ?_; intro gb235 hg w8 hbox hb; have BK235 := Bk.mk (hbox); have GE235 := eB w hg; replace HB := bS w hb; clear hb hbox hg) | ((with_reducible refine gate_dst (N := 5) rfl ?_); refine bxE 5 47 #[.int .i64 a1_0, .int .i64 a1_1, .int .i64 a1_2, .int .i64 a1_3, .int .i64 a1_4, .int .i64 a1_5, .int .i64 a1_6, .int .i64 a1_7, .slice A1_8 l1_8.length c1_8] (by rfl) (by rfl) (by first | (go_simp; done) | (go_simp; rfl)) ?_; intro gb236 hg w9 hbox hb; have BK236 := Bk.mk (hbox); have GE236 := eB w hg; have NB235_236 := nB gb235 hg; replace BK235 := kB gb235 hb; replace HB := bS w hb; clear hb hbox hg) | ((with_reducible refine gate_dst (N := 8) rfl ?_); refine bxE 8 103 #[.int .i64 0, .int .i64 0] (by rfl) (by rfl) (by first | (go_simp; done) | (go_simp; rfl)) ?_; intro gb237 hg w10 hbox hb; have BK237 := Bk.mk (hbox); have GE237 := eB w hg; have NB235_237 := nB gb235 hg; have NB236_237 := nB gb236 hg; replace BK235 := kB gb235 hb; replace BK236 := kB gb236 hb; replace HB := bS w hb; clear hb hbox hg; obtain ⟨hnb11, hnc11⟩ := nn NB235_236; obtain ⟨hnb12, hnc12⟩ := nn NB235_237; obtain ⟨hcz13_0, hcz13_1, hcz13_2, hfz13_0, hfz13_1, hfz13_2⟩ := cz3 BK235; obtain ⟨hnb14, hnc14⟩ := nn NB236_237; obtain ⟨hcz15_0, hcz15_1, hcz15_2, hcz15_3, hcz15_4, hcz15_5, hcz15_6, hcz15_7, hcz15_8, hfz15_0, hfz15_1, hfz15_2, hfz15_3, hfz15_4, hfz15_5, hfz15_6, hfz15_7, hfz15_8⟩ := cz9 BK236) | ((with_reducible refine gate_callee (f := 104) rfl ?_); refine goesLM (some 15) rfl rfl Tryd.func104 (by kernel_rfl) rfl #[.agg #[.int .i64 a0_0, .int .i64 a0_1, .slice A0_2 l0_2.length c0_2], .agg #[.int .i64 a1_0, .int .i64 a1_1, .int .i64 a1_2, .int .i64 a1_3, .int .i64 a1_4, .int .i64 a1_5, .int .i64 a1_6, .int .i64 a1_7, .slice A1_8 l1_8.length c1_8], .int .i64 a2, .int .i64 a3] rfl (by rfl) ?_; (with_reducible refine (course_stakeOf.calls k a0_0 a0_1 _ _ l0_2 a1_0 a1_1 a1_2 a1_3 a1_4 a1_5 a1_6 a1_7 _ _ l1_8 a2 a3 t238 _ ?side1 ?side2 ?side3 ?side4 A5.out).mono ?_); (case side1 => exact cP (Kd.C_below HR0_2.out HB.out)); (case side2 => exact HC0_2.out); (case side3 => exact cP (Kd.C_below HR1_8.out HB.out)); (case side4 => exact HC1_8.out); rintro e w16 ⟨rfl, hb⟩; refine ⟨_, rfl, ?_⟩; replace BK235 := kB gb235 hb; replace BK236 := kB gb236 hb; replace BK237 := kB gb237 hb; replace HB := bS w hb; (try clear hb); obtain ⟨hcz17_0, hcz17_1, hcz17_2, hfz17_0, hfz17_1, hfz17_2⟩ := cz3 BK235; obtain ⟨hcz18_0, hcz18_1, hcz18_2, hcz18_3, hcz18_4, hcz18_5, hcz18_6, hcz18_7, hcz18_8, hfz18_0, hfz18_1, hfz18_2, hfz18_3, hfz18_4, hfz18_5, hfz18_6, hfz18_7, hfz18_8⟩ := cz9 BK236) | ((with_reducible refine gate_callee (f := 105) rfl ?_); refine goesLM (some 23) rfl rfl Tryd.func105 (by kernel_rfl) rfl #[.agg #[.int .i64 a0_0, .int .i64 a0_1, .slice A0_2 l0_2.length c0_2], .agg #[.int .i64 a1_0, .int .i64 a1_1, .int .i64 a1_2, .int .i64 a1_3, .int .i64 a1_4, .int .i64 a1_5, .int .i64 a1_6, .int .i64 a1_7, .slice A1_8 l1_8.length c1_8], .int .i64 a3] rfl (by rfl) ?_; (with_reducible refine (course_turns.calls k a0_0 a0_1 _ _ l0_2 a1_0 a1_1 a1_2 a1_3 a1_4 a1_5 a1_6 a1_7 _ _ l1_8 a3 t239 t240 t241 _ ?side1 ?side2 ?side3 ?side4 A7.out).mono ?_); (case side1 => exact cP (Kd.C_below HR0_2.out HB.out)); (case side2 => exact HC0_2.out); (case side3 => exact cP (Kd.C_below HR1_8.out HB.out)); (case side4 => exact HC1_8.out); rintro e w19 ⟨rfl, hb⟩; refine ⟨_, rfl, ?_⟩; replace BK235 := kB gb235 hb; replace BK236 := kB gb236 hb; replace BK237 := kB gb237 hb; replace HB := bS w hb; (try clear hb); obtain ⟨hcz20_0, hcz20_1, hfz20_0, hfz20_1⟩ := cz2 BK237))
  all_goals (refine bodyPost_ret (results_ct rfl _ _ gb237 103 #[.int .i64 t239, .int .i64 t240] (0, 0) _ rfl (bko gb237 (by rfl)) Tryd.underlying103 rfl (by kernel_rfl)) rfl ?_; exact ⟨by first | rfl | (simp [errW_none, errW_some] <;> rfl) | (simp [*, errW_none, errW_some] <;> rfl), bw w⟩)
 ·
  rw [if_neg c6] at H
  have c6b0 : (t238 == 0) = false := beq_eq_false_iff_ne.mpr c6
  have c6b1 : (t238 != 0) = true := bne_iff_ne.mpr c6
  simp only [Option.some.injEq, Prod.mk.injEq] at H
  obtain ⟨rfl, rfl, rfl⟩ := H
  go_enter Tryd.func81, Tryd.ntmps81
  go_wp2_with (first | ((with_reducible refine gate_dst (N := 4) rfl ?_); refine bxE 4 24 #[.int .i64 a0_0, .int .i64 a0_1, .slice A0_2 l0_2.length c0_2] (by rfl) (by rfl) (by first | (go_simp; done) | (go_simp; rfl)) ?_; intro gb235 hg w21 hbox hb; have BK235 := Bk.mk (hbox); have GE235 := eB w hg; replace HB := bS w hb; clear hb hbox hg) | ((with_reducible refine gate_dst (N := 5) rfl ?_); refine bxE 5 47 #[.int .i64 a1_0, .int .i64 a1_1, .int .i64 a1_2, .int .i64 a1_3, .int .i64 a1_4, .int .i64 a1_5, .int .i64 a1_6, .int .i64 a1_7, .slice A1_8 l1_8.length c1_8] (by rfl) (by rfl) (by first | (go_simp; done) | (go_simp; rfl)) ?_; intro gb236 hg w22 hbox hb; have BK236 := Bk.mk (hbox); have GE236 := eB w hg; have NB235_236 := nB gb235 hg; replace BK235 := kB gb235 hb; replace HB := bS w hb; clear hb hbox hg) | ((with_reducible refine gate_dst (N := 8) rfl ?_); refine bxE 8 103 #[.int .i64 0, .int .i64 0] (by rfl) (by rfl) (by first | (go_simp; done) | (go_simp; rfl)) ?_; intro gb237 hg w23 hbox hb; have BK237 := Bk.mk (hbox); have GE237 := eB w hg; have NB235_237 := nB gb235 hg; have NB236_237 := nB gb236 hg; replace BK235 := kB gb235 hb; replace BK236 := kB gb236 hb; replace HB := bS w hb; clear hb hbox hg; obtain ⟨hnb24, hnc24⟩ := nn NB235_236; obtain ⟨hnb25, hnc25⟩ := nn NB235_237; obtain ⟨hcz26_0, hcz26_1, hcz26_2, hfz26_0, hfz26_1, hfz26_2⟩ := cz3 BK235; obtain ⟨hnb27, hnc27⟩ := nn NB236_237; obtain ⟨hcz28_0, hcz28_1, hcz28_2, hcz28_3, hcz28_4, hcz28_5, hcz28_6, hcz28_7, hcz28_8, hfz28_0, hfz28_1, hfz28_2, hfz28_3, hfz28_4, hfz28_5, hfz28_6, hfz28_7, hfz28_8⟩ := cz9 BK236) | ((with_reducible refine gate_callee (f := 104) rfl ?_); refine goesLM (some 15) rfl rfl Tryd.func104 (by kernel_rfl) rfl #[.agg #[.int .i64 a0_0, .int .i64 a0_1, .slice A0_2 l0_2.length c0_2], .agg #[.int .i64 a1_0, .int .i64 a1_1, .int .i64 a1_2, .int .i64 a1_3, .int .i64 a1_4, .int .i64 a1_5, .int .i64 a1_6, .int .i64 a1_7, .slice A1_8 l1_8.length c1_8], .int .i64 a2, .int .i64 a3] rfl (by rfl) ?_; (with_reducible refine (course_stakeOf.calls k a0_0 a0_1 _ _ l0_2 a1_0 a1_1 a1_2 a1_3 a1_4 a1_5 a1_6 a1_7 _ _ l1_8 a2 a3 t238 _ ?side1 ?side2 ?side3 ?side4 A5.out).mono ?_); (case side1 => exact cP (Kd.C_below HR0_2.out HB.out)); (case side2 => exact HC0_2.out); (case side3 => exact cP (Kd.C_below HR1_8.out HB.out)); (case side4 => exact HC1_8.out); rintro e w29 ⟨rfl, hb⟩; refine ⟨_, rfl, ?_⟩; replace BK235 := kB gb235 hb; replace BK236 := kB gb236 hb; replace BK237 := kB gb237 hb; replace HB := bS w hb; (try clear hb); obtain ⟨hcz30_0, hcz30_1, hfz30_0, hfz30_1⟩ := cz2 BK237))
  all_goals (refine bodyPost_ret (results_ct rfl _ _ gb237 103 #[.int .i64 0, .int .i64 0] (0, 0) _ rfl (bko gb237 (by rfl)) Tryd.underlying103 rfl (by kernel_rfl)) rfl ?_; exact ⟨by first | rfl | (simp [errW_none, errW_some] <;> rfl) | (simp [*, errW_none, errW_some] <;> rfl), bw w⟩)
end Go.Proofs.YtapijkdgkajoeaaDoor.PF
end
