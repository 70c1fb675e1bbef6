/- What the law's proof leans on. Part 3 of 6. -/
import Derived.Test.YtapijkdgkajoeaaDoorHiB
section
namespace Go.Proofs.YtapijkdgkajoeaaDoor.PF
open Go.RowKit Go.Proofs.YtapijkdgkajoeaaDoorW.PrintWords Go.Proofs.YtapijkdgkajoeaaDoorW.PrintLast Go.Proofs.YtapijkdgkajoeaaDoorW.PrintMore
attribute [local go_sem] max2_int min2_int max_two min_two
set_option linter.unusedVariables false
set_option linter.unusedSimpArgs false
attribute [local go_sem high] ixA103_1
def course_turn.f (k : Nat) (a0_0 : Int) (a0_1 : Int) (l0_2 : List (S26)) (a1 : Int) (a2 : Int) (a3 : Int) : Option (Int × Int) := (course_drift.f k a0_0 a0_1 l0_2 a1 a3).bind fun bt171 => ((course_drift.f k a0_0 a0_1 l0_2 a2 a3).bind fun bt173 => ((course_apart.f a1 a2).bind fun t177 => ((course_ends_wider.f 0 0 (wrap64 (a0_1 * t177))).bind fun bt178 => ((course_ends_meet.f (wrap64 (bt173.1 - bt171.2)) (wrap64 (bt173.2 - bt171.1)) bt178.1 bt178.2).bind fun bt180 => (some (bt180.1, bt180.2))))))
theorem course_turn.mono : ∀ a0 a1 a2 a3 a4 a5 k, LeO (course_turn.f k a0 a1 a2 a3 a4 a5) (course_turn.f (k + 1) a0 a1 a2 a3 a4 a5) := by
 intro a0 a1 a2 a3 a4 a5 k
 unfold course_turn.f
 repeat' first
   | (with_reducible exact course_drift.mono _ _ _ _ _ _)
   | (with_reducible exact LeO.refl _)
   | (with_reducible exact LeO.none _)
   | (with_reducible refine LeO.ite ?_ ?_)
   | (with_reducible refine LeO.bind ?_ (fun _ => ?_))
   | exact course_drift.mono _ _ _ _ _ _
   | exact LeO.none _
   | refine LeO.ite ?_ ?_
   | refine LeO.bind ?_ (fun _ => ?_)
def course_turn.T1 : Bool × List (List Nat × List Nat) := (true, [([], []), ([], []), ([], []), ([0, 1, 2], [0, 1, 2]), ([], []), ([], []), ([], []), ([4, 5, 6, 3], [4, 5, 6]), ([], []), ([], []), ([8, 3, 7, 0, 1, 2, 3, 8, 9], [3, 8]), ([9, 7, 10, 0, 1, 2, 3, 4, 5, 6, 7, 8, 9, 10], [7, 9])])
def course_turn.B1 : List Nat := [0, 0, 0, 7, 0, 0, 0, 127, 0, 0, 1023, 2047]
theorem course_turn.tab1 : rtab .any (opsOf Tryd.f79 1) = course_turn.T1 := by kernel_rfl
theorem course_turn.bits1 : waitsOk course_turn.T1.2 course_turn.B1 = true := by kernel_rfl
def course_turn.T2 : Bool × List (List Nat × List Nat) := (true, [([], []), ([0], [0]), ([], []), ([2], [2]), ([1, 3], [1, 3]), ([], []), ([5], [5]), ([], []), ([7], [7]), ([6, 8], [6, 8]), ([4, 9], [4, 9]), ([], []), ([], []), ([12], [12]), ([], []), ([], []), ([14, 15], [14, 15]), ([13, 16], [13, 16]), ([11, 17, 16], [11, 17]), ([10, 18, 18], [10, 18]), ([19, 19, 0, 1, 2, 3, 4, 5, 6, 7, 8, 9, 10, 11, 12, 13, 14, 15, 16, 17, 18, 19], [19])])
def course_turn.B2 : List Nat := [0, 1, 0, 4, 15, 0, 32, 0, 128, 480, 1023, 0, 0, 4096, 0, 0, 49152, 126976, 260096, 524287, 1048575]
theorem course_turn.tab2 : rtab .any (opsOf Tryd.f79 2) = course_turn.T2 := by kernel_rfl
theorem course_turn.bits2 : waitsOk course_turn.T2.2 course_turn.B2 = true := by kernel_rfl
set_option maxHeartbeats 8000000 in
set_option maxRecDepth 100000 in
theorem course_turn.calls (k : Nat) (a0_0 : Int) (a0_1 : Int) (A0_2 : Option Addr) (c0_2 : Nat) (l0_2 : List (S26)) (a1 : Int) (a2 : Int) (a3 : Int) (r1 : Int) (r2 : Int) (w : World) (hr0_2 : Kd.C k26 w A0_2 l0_2.length l0_2) (hc0_2 : l0_2.length ≤ c0_2) (h : course_turn.f k a0_0 a0_1 l0_2 a1 a2 a3 = some (r1, r2)) :
  Calls Tryd.prog 79 #[.agg #[.int .i64 a0_0, .int .i64 a0_1, .slice A0_2 l0_2.length c0_2], .int .i64 a1, .int .i64 a2, .int .i64 a3] w fun e w' => e = .returned (.agg #[.int .i64 r1, .int .i64 r2]) ∧ Below w.heap.size w w' := by
 have hu24 := Tryd.underlying24
 have hu103 := Tryd.underlying103
 have HR0_2 := Aside0.mk (hr0_2)
 have HC0_2 := Aside0.mk (hc0_2)
 clear hr0_2 hc0_2
 have HB := Bw.mk (Below.refl w.heap.size w)
 have H : ((course_drift.f k a0_0 a0_1 l0_2 a1 a3).bind fun bt171 => ((course_drift.f k a0_0 a0_1 l0_2 a2 a3).bind fun bt173 => ((course_apart.f a1 a2).bind fun t177 => ((course_ends_wider.f 0 0 (wrap64 (a0_1 * t177))).bind fun bt178 => ((course_ends_meet.f (wrap64 (bt173.1 - bt171.2)) (wrap64 (bt173.2 - bt171.1)) bt178.1 bt178.2).bind fun bt180 => (some (bt180.1, bt180.2))))))) = some (r1, r2) := h
 clear h
 replace H := Option.bind_eq_some_iff.mp H
 obtain ⟨⟨t171, t172⟩, A50, H⟩ := H
 have A5 := Aside0.mk (A50)
 clear A50
 replace H := Option.bind_eq_some_iff.mp H
 obtain ⟨⟨t173, t174⟩, A60, H⟩ := H
 have A6 := Aside0.mk (A60)
 clear A60
 replace H := Option.bind_eq_some_iff.mp H
 obtain ⟨t177, A70, H⟩ := H
 have A7 := Aside0.mk (A70)
 clear A70
 replace H := Option.bind_eq_some_iff.mp H
 obtain ⟨⟨t178, t179⟩, A80, H⟩ := H
 have A8 := Aside0.mk (A80)
 clear A80
 replace H := Option.bind_eq_some_iff.mp H
 obtain ⟨⟨t180, t181⟩, A90, H⟩ := H
 have A9 := Aside0.mk (A90)
 clear A90
 simp only [Option.some.injEq, Prod.mk.injEq] at H
 obtain ⟨rfl, rfl⟩ := H
 go_enter Tryd.func79, Tryd.ntmps79
 try go_wp2_with (first | ((with_reducible refine gate_dst (N := 4) rfl ?_); refine bxE 4 24 #[.int .i64 a0_0, .int .i64 a0_1, .slice A0_2 l0_2.length c0_2] (by rfl) (by rfl) (by first | (go_simp; done) | (go_simp; rfl)) ?_; intro gb169 hg w10 hbox hb; have BK169 := Bk.mk (hbox); have GE169 := eB w hg; replace HB := bS w hb; clear hb hbox hg) | ((with_reducible refine gate_dst (N := 8) rfl ?_); refine bxE 8 103 #[.int .i64 0, .int .i64 0] (by rfl) (by rfl) (by first | (go_simp; done) | (go_simp; rfl)) ?_; intro gb170 hg w11 hbox hb; have BK170 := Bk.mk (hbox); have GE170 := eB w hg; have NB169_170 := nB gb169 hg; replace BK169 := kB gb169 hb; replace HB := bS w hb; clear hb hbox hg))
 have n0_ := Bk.mk (blk_drew BK169.out)
 have n1_ := Bk.mk (blk_drew BK170.out)
 have n2_ := Bw.mk (below_drew1 HB.out)
 clear BK169 BK170 HB
 have BK169 := n0_
 have BK170 := n1_
 have HB := n2_
 clear n0_ n1_ n2_
 refine start_ (n := 12) (S := fun w' => w'.cell? ⟨gb169, 0, none⟩ = some (.int .i64 a0_0) ∧ w'.cell? ⟨gb169, 1, none⟩ = some (.int .i64 a0_1) ∧ w'.cell? ⟨gb169, 2, none⟩ = some (.slice A0_2 l0_2.length c0_2)) (ds := []) #[false, false, false, false, false, false, false, false, false, false, false, false] (by kernel_rfl) rfl rfl ⟨bc BK169 0, bc BK169 1, bc BK169 2⟩ (fun hHeld => ?_); refine with_tabW course_turn.tab1 course_turn.bits1 (fun HT_ HW_ => ?_)
 generalize w11.drew = w12 at BK169 BK170 HB hHeld ⊢
 refine pS 1 (some 12) rfl rfl (any_of HT_.out (by kernel_rfl)) (fun _ _ _ h => h) (by rfl) (fun w' => by go_simp; with_reducible rfl) (by simp only [Act.put, List.setIfInBounds_toArray, List.set_cons_zero, List.set_cons_succ, i64_w]; rfl) ?_
 refine pS 2 (some 13) rfl rfl (any_of HT_.out (by kernel_rfl)) (fun _ _ _ h => h) (by rfl) (fun w' => by go_simp; with_reducible rfl) (by simp only [Act.put, List.setIfInBounds_toArray, List.set_cons_zero, List.set_cons_succ, i64_w]; rfl) ?_
 refine pS 5 (some 16) rfl rfl (any_of HT_.out (by kernel_rfl)) (fun _ _ _ h => h) (by rfl) (fun w' => by go_simp; with_reducible rfl) (by simp only [Act.put, List.setIfInBounds_toArray, List.set_cons_zero, List.set_cons_succ, i64_w]; rfl) ?_
 refine pS 6 (some 17) rfl rfl (any_of HT_.out (by kernel_rfl)) (fun _ _ _ h => h) (by rfl) (fun w' => by go_simp; with_reducible rfl) (by simp only [Act.put, List.setIfInBounds_toArray, List.set_cons_zero, List.set_cons_succ, i64_w]; rfl) ?_
 refine tS 0 (some 11) rfl rfl (take_ofW HT_.out HW_.out (by kernel_rfl)) (fun _ _ _ h => h) (by rfl) (by rintro w' ⟨s0, s1, s2⟩; go_simp; with_reducible rfl) hHeld (by simp only [Act.put, List.setIfInBounds_toArray, List.set_cons_zero, List.set_cons_succ, i64_w]; rfl) ?_
 refine tS 4 (some 15) rfl rfl (take_ofW HT_.out HW_.out (by kernel_rfl)) (fun _ _ _ h => h) (by rfl) (by rintro w' ⟨s0, s1, s2⟩; go_simp; with_reducible rfl) hHeld (by simp only [Act.put, List.setIfInBounds_toArray, List.set_cons_zero, List.set_cons_succ, i64_w]; rfl) ?_
 refine join_ (σ := Nat × Nat) 2 #[true, true, true, true, true, true, true, true, true, true, false, false] (fun s_ => [(14, .agg #[.int .i64 t171, .int .i64 t172]), (18, .agg #[.int .i64 t173, .int .i64 t174]), (9, .pointer (some ⟨s_.1, 0, none⟩)), (10, .pointer (some ⟨s_.2, 0, none⟩))]) (fun s_ w' => (w'.cell? ⟨gb169, 0, none⟩ = some (.int .i64 a0_0) ∧ w'.cell? ⟨gb169, 1, none⟩ = some (.int .i64 a0_1) ∧ w'.cell? ⟨gb169, 2, none⟩ = some (.slice A0_2 l0_2.length c0_2)) ∧ (w'.heap[gb169]? = some (.cells #[.int .i64 a0_0, .int .i64 a0_1, .slice A0_2 l0_2.length c0_2] 24 (0, 0))) ∧ (w'.heap[gb170]? = some (.cells #[.int .i64 0, .int .i64 0] 103 (0, 0))) ∧ (w'.heap[s_.1]? = some (.cells #[.int .i64 0, .int .i64 0] 103 (0, 0))) ∧ (w'.heap[s_.2]? = some (.cells #[.int .i64 0, .int .i64 0] 103 (0, 0))) ∧ (w.heap.size ≤ s_.1) ∧ (w.heap.size ≤ s_.1) ∧ (gb169 ≠ s_.1) ∧ (s_.1 ≠ gb169) ∧ (gb170 ≠ s_.1) ∧ (s_.1 ≠ gb170) ∧ (s_.2 ≠ s_.1) ∧ (s_.1 ≠ s_.2) ∧ (w.heap.size ≤ s_.2) ∧ (w.heap.size ≤ s_.2) ∧ (gb169 ≠ s_.2) ∧ (s_.2 ≠ gb169) ∧ (gb170 ≠ s_.2) ∧ (s_.2 ≠ gb170) ∧ (Below w.heap.size w w')) ?_ ?_
 rotate_left
 ·
  intro hJ3_7_8_9
  refine join_ (σ := Nat) 3 #[true, true, true, true, true, true, true, true, true, false, false, false] (fun s_ => [(14, .agg #[.int .i64 t171, .int .i64 t172]), (18, .agg #[.int .i64 t173, .int .i64 t174]), (9, .pointer (some ⟨s_, 0, none⟩))]) (fun s_ w' => (w'.cell? ⟨gb169, 0, none⟩ = some (.int .i64 a0_0) ∧ w'.cell? ⟨gb169, 1, none⟩ = some (.int .i64 a0_1) ∧ w'.cell? ⟨gb169, 2, none⟩ = some (.slice A0_2 l0_2.length c0_2)) ∧ (w'.heap[gb169]? = some (.cells #[.int .i64 a0_0, .int .i64 a0_1, .slice A0_2 l0_2.length c0_2] 24 (0, 0))) ∧ (w'.heap[gb170]? = some (.cells #[.int .i64 0, .int .i64 0] 103 (0, 0))) ∧ (w'.heap[s_]? = some (.cells #[.int .i64 0, .int .i64 0] 103 (0, 0))) ∧ (w.heap.size ≤ s_) ∧ (w.heap.size ≤ s_) ∧ (gb169 ≠ s_) ∧ (s_ ≠ gb169) ∧ (gb170 ≠ s_) ∧ (s_ ≠ gb170) ∧ (Below w.heap.size w w')) ?_ ?_
  rotate_left
  ·
   intro hJ3_7_8
   refine join_ (σ := Nat) 3 #[true, true, true, true, true, true, true, true, false, true, false, false] (fun s_ => [(14, .agg #[.int .i64 t171, .int .i64 t172]), (18, .agg #[.int .i64 t173, .int .i64 t174]), (10, .pointer (some ⟨s_, 0, none⟩))]) (fun s_ w' => (w'.cell? ⟨gb169, 0, none⟩ = some (.int .i64 a0_0) ∧ w'.cell? ⟨gb169, 1, none⟩ = some (.int .i64 a0_1) ∧ w'.cell? ⟨gb169, 2, none⟩ = some (.slice A0_2 l0_2.length c0_2)) ∧ (w'.heap[gb169]? = some (.cells #[.int .i64 a0_0, .int .i64 a0_1, .slice A0_2 l0_2.length c0_2] 24 (0, 0))) ∧ (w'.heap[gb170]? = some (.cells #[.int .i64 0, .int .i64 0] 103 (0, 0))) ∧ (w'.heap[s_]? = some (.cells #[.int .i64 0, .int .i64 0] 103 (0, 0))) ∧ (w.heap.size ≤ s_) ∧ (w.heap.size ≤ s_) ∧ (gb169 ≠ s_) ∧ (s_ ≠ gb169) ∧ (gb170 ≠ s_) ∧ (s_ ≠ gb170) ∧ (Below w.heap.size w w')) ?_ ?_
   rotate_left
   ·
    intro hJ3_7_9
    refine join_ (σ := Nat × Nat) 3 #[true, true, true, true, true, true, true, false, true, true, false, false] (fun s_ => [(14, .agg #[.int .i64 t171, .int .i64 t172]), (9, .pointer (some ⟨s_.1, 0, none⟩)), (10, .pointer (some ⟨s_.2, 0, none⟩))]) (fun s_ w' => (w'.cell? ⟨gb169, 0, none⟩ = some (.int .i64 a0_0) ∧ w'.cell? ⟨gb169, 1, none⟩ = some (.int .i64 a0_1) ∧ w'.cell? ⟨gb169, 2, none⟩ = some (.slice A0_2 l0_2.length c0_2)) ∧ (w'.heap[gb169]? = some (.cells #[.int .i64 a0_0, .int .i64 a0_1, .slice A0_2 l0_2.length c0_2] 24 (0, 0))) ∧ (w'.heap[gb170]? = some (.cells #[.int .i64 0, .int .i64 0] 103 (0, 0))) ∧ (w'.heap[s_.1]? = some (.cells #[.int .i64 0, .int .i64 0] 103 (0, 0))) ∧ (w'.heap[s_.2]? = some (.cells #[.int .i64 0, .int .i64 0] 103 (0, 0))) ∧ (w.heap.size ≤ s_.1) ∧ (w.heap.size ≤ s_.1) ∧ (gb169 ≠ s_.1) ∧ (s_.1 ≠ gb169) ∧ (gb170 ≠ s_.1) ∧ (s_.1 ≠ gb170) ∧ (s_.2 ≠ s_.1) ∧ (s_.1 ≠ s_.2) ∧ (w.heap.size ≤ s_.2) ∧ (w.heap.size ≤ s_.2) ∧ (gb169 ≠ s_.2) ∧ (s_.2 ≠ gb169) ∧ (gb170 ≠ s_.2) ∧ (s_.2 ≠ gb170) ∧ (Below w.heap.size w w')) ?_ ?_
    rotate_left
    ·
     intro hJ3_8_9
     refine join_ (σ := Unit) 4 #[true, true, true, true, true, true, true, true, false, false, false, false] (fun s_ => [(14, .agg #[.int .i64 t171, .int .i64 t172]), (18, .agg #[.int .i64 t173, .int .i64 t174])]) (fun s_ w' => (w'.cell? ⟨gb169, 0, none⟩ = some (.int .i64 a0_0) ∧ w'.cell? ⟨gb169, 1, none⟩ = some (.int .i64 a0_1) ∧ w'.cell? ⟨gb169, 2, none⟩ = some (.slice A0_2 l0_2.length c0_2)) ∧ (w'.heap[gb169]? = some (.cells #[.int .i64 a0_0, .int .i64 a0_1, .slice A0_2 l0_2.length c0_2] 24 (0, 0))) ∧ (w'.heap[gb170]? = some (.cells #[.int .i64 0, .int .i64 0] 103 (0, 0))) ∧ (Below w.heap.size w w')) ?_ ?_
     rotate_left
     ·
      intro hJ3_7
      refine join_ (σ := Nat) 4 #[true, true, true, true, true, true, true, false, true, false, false, false] (fun s_ => [(14, .agg #[.int .i64 t171, .int .i64 t172]), (9, .pointer (some ⟨s_, 0, none⟩))]) (fun s_ w' => (w'.cell? ⟨gb169, 0, none⟩ = some (.int .i64 a0_0) ∧ w'.cell? ⟨gb169, 1, none⟩ = some (.int .i64 a0_1) ∧ w'.cell? ⟨gb169, 2, none⟩ = some (.slice A0_2 l0_2.length c0_2)) ∧ (w'.heap[gb169]? = some (.cells #[.int .i64 a0_0, .int .i64 a0_1, .slice A0_2 l0_2.length c0_2] 24 (0, 0))) ∧ (w'.heap[gb170]? = some (.cells #[.int .i64 0, .int .i64 0] 103 (0, 0))) ∧ (w'.heap[s_]? = some (.cells #[.int .i64 0, .int .i64 0] 103 (0, 0))) ∧ (w.heap.size ≤ s_) ∧ (w.heap.size ≤ s_) ∧ (gb169 ≠ s_) ∧ (s_ ≠ gb169) ∧ (gb170 ≠ s_) ∧ (s_ ≠ gb170) ∧ (Below w.heap.size w w')) ?_ ?_
      rotate_left
      ·
       intro hJ3_8
       refine join_ (σ := Nat) 4 #[true, true, true, true, true, true, true, false, false, true, false, false] (fun s_ => [(14, .agg #[.int .i64 t171, .int .i64 t172]), (10, .pointer (some ⟨s_, 0, none⟩))]) (fun s_ w' => (w'.cell? ⟨gb169, 0, none⟩ = some (.int .i64 a0_0) ∧ w'.cell? ⟨gb169, 1, none⟩ = some (.int .i64 a0_1) ∧ w'.cell? ⟨gb169, 2, none⟩ = some (.slice A0_2 l0_2.length c0_2)) ∧ (w'.heap[gb169]? = some (.cells #[.int .i64 a0_0, .int .i64 a0_1, .slice A0_2 l0_2.length c0_2] 24 (0, 0))) ∧ (w'.heap[gb170]? = some (.cells #[.int .i64 0, .int .i64 0] 103 (0, 0))) ∧ (w'.heap[s_]? = some (.cells #[.int .i64 0, .int .i64 0] 103 (0, 0))) ∧ (w.heap.size ≤ s_) ∧ (w.heap.size ≤ s_) ∧ (gb169 ≠ s_) ∧ (s_ ≠ gb169) ∧ (gb170 ≠ s_) ∧ (s_ ≠ gb170) ∧ (Below w.heap.size w w')) ?_ ?_
       rotate_left
       ·
        intro hJ3_9
        refine join_ (σ := Nat × Nat) 4 #[true, true, true, false, true, true, true, false, true, true, false, false] (fun s_ => [(9, .pointer (some ⟨s_.1, 0, none⟩)), (10, .pointer (some ⟨s_.2, 0, none⟩))]) (fun s_ w' => (w'.cell? ⟨gb169, 0, none⟩ = some (.int .i64 a0_0) ∧ w'.cell? ⟨gb169, 1, none⟩ = some (.int .i64 a0_1) ∧ w'.cell? ⟨gb169, 2, none⟩ = some (.slice A0_2 l0_2.length c0_2)) ∧ (w'.heap[gb169]? = some (.cells #[.int .i64 a0_0, .int .i64 a0_1, .slice A0_2 l0_2.length c0_2] 24 (0, 0))) ∧ (w'.heap[gb170]? = some (.cells #[.int .i64 0, .int .i64 0] 103 (0, 0))) ∧ (w'.heap[s_.1]? = some (.cells #[.int .i64 0, .int .i64 0] 103 (0, 0))) ∧ (w'.heap[s_.2]? = some (.cells #[.int .i64 0, .int .i64 0] 103 (0, 0))) ∧ (w.heap.size ≤ s_.1) ∧ (w.heap.size ≤ s_.1) ∧ (gb169 ≠ s_.1) ∧ (s_.1 ≠ gb169) ∧ (gb170 ≠ s_.1) ∧ (s_.1 ≠ gb170) ∧ (s_.2 ≠ s_.1) ∧ (s_.1 ≠ s_.2) ∧ (w.heap.size ≤ s_.2) ∧ (w.heap.size ≤ s_.2) ∧ (gb169 ≠ s_.2) ∧ (s_.2 ≠ gb169) ∧ (gb170 ≠ s_.2) ∧ (s_.2 ≠ gb170) ∧ (Below w.heap.size w w')) ?_ ?_
        rotate_left
        ·
         intro hJ8_9
         refine join_ (σ := Unit) 5 #[true, true, true, true, true, true, true, false, false, false, false, false] (fun s_ => [(14, .agg #[.int .i64 t171, .int .i64 t172])]) (fun s_ w' => (w'.cell? ⟨gb169, 0, none⟩ = some (.int .i64 a0_0) ∧ w'.cell? ⟨gb169, 1, none⟩ = some (.int .i64 a0_1) ∧ w'.cell? ⟨gb169, 2, none⟩ = some (.slice A0_2 l0_2.length c0_2)) ∧ (w'.heap[gb169]? = some (.cells #[.int .i64 a0_0, .int .i64 a0_1, .slice A0_2 l0_2.length c0_2] 24 (0, 0))) ∧ (w'.heap[gb170]? = some (.cells #[.int .i64 0, .int .i64 0] 103 (0, 0))) ∧ (Below w.heap.size w w')) ?_ ?_
         rotate_left
         ·
          intro hJ3
          refine join_ (σ := Nat) 5 #[true, true, true, false, true, true, true, false, true, false, false, false] (fun s_ => [(9, .pointer (some ⟨s_, 0, none⟩))]) (fun s_ w' => (w'.cell? ⟨gb169, 0, none⟩ = some (.int .i64 a0_0) ∧ w'.cell? ⟨gb169, 1, none⟩ = some (.int .i64 a0_1) ∧ w'.cell? ⟨gb169, 2, none⟩ = some (.slice A0_2 l0_2.length c0_2)) ∧ (w'.heap[gb169]? = some (.cells #[.int .i64 a0_0, .int .i64 a0_1, .slice A0_2 l0_2.length c0_2] 24 (0, 0))) ∧ (w'.heap[gb170]? = some (.cells #[.int .i64 0, .int .i64 0] 103 (0, 0))) ∧ (w'.heap[s_]? = some (.cells #[.int .i64 0, .int .i64 0] 103 (0, 0))) ∧ (w.heap.size ≤ s_) ∧ (w.heap.size ≤ s_) ∧ (gb169 ≠ s_) ∧ (s_ ≠ gb169) ∧ (gb170 ≠ s_) ∧ (s_ ≠ gb170) ∧ (Below w.heap.size w w')) ?_ ?_
          rotate_left
          ·
           intro hJ8
           refine join_ (σ := Nat) 5 #[true, true, true, false, true, true, true, false, false, true, false, false] (fun s_ => [(10, .pointer (some ⟨s_, 0, none⟩))]) (fun s_ w' => (w'.cell? ⟨gb169, 0, none⟩ = some (.int .i64 a0_0) ∧ w'.cell? ⟨gb169, 1, none⟩ = some (.int .i64 a0_1) ∧ w'.cell? ⟨gb169, 2, none⟩ = some (.slice A0_2 l0_2.length c0_2)) ∧ (w'.heap[gb169]? = some (.cells #[.int .i64 a0_0, .int .i64 a0_1, .slice A0_2 l0_2.length c0_2] 24 (0, 0))) ∧ (w'.heap[gb170]? = some (.cells #[.int .i64 0, .int .i64 0] 103 (0, 0))) ∧ (w'.heap[s_]? = some (.cells #[.int .i64 0, .int .i64 0] 103 (0, 0))) ∧ (w.heap.size ≤ s_) ∧ (w.heap.size ≤ s_) ∧ (gb169 ≠ s_) ∧ (s_ ≠ gb169) ∧ (gb170 ≠ s_) ∧ (s_ ≠ gb170) ∧ (Below w.heap.size w w')) ?_ ?_
           rotate_left
           ·
            intro hJ9
            refine three_ (i := 3) (j := 8) (k := 9) (Ni := some 14) (Nj := some 9) (Nk := some 10) #[true, true, true, true, true, true, true, false, false, false, false, false] #[true, true, true, false, true, true, true, false, true, false, false, false] #[true, true, true, false, true, true, true, false, false, true, false, false] rfl rfl rfl rfl rfl rfl (three_of HT_.out (by kernel_rfl)) (by decide) (by decide) (by decide) (fun K hK => ?_) (fun K hK => ?_) (fun K hK => ?_)
            ·
             skip
             refine goesM Tryd.func77 (by kernel_rfl) rfl #[.agg #[.int .i64 a0_0, .int .i64 a0_1, .slice A0_2 l0_2.length c0_2], .int .i64 a1, .int .i64 a3] (by rfl) rfl rfl (by rfl) ?_
             with_reducible refine (course_drift.calls k a0_0 a0_1 _ _ l0_2 a1 a3 t171 t172 _ ?side1 ?side2 A5.out).mono ?_
             (case side1 => exact cP (Kd.C_below HR0_2.out HB.out))
             (case side2 => exact HC0_2.out)
             rintro e w13 ⟨rfl, hb⟩
             refine ⟨_, rfl, ?_⟩
             replace BK169 := kB gb169 hb
             replace BK170 := kB gb170 hb
             replace HB := bS w hb
             (try clear hb)
             refine hK.out _ _ ⟨bc BK169 0, bc BK169 1, bc BK169 2⟩ (fun hHeld => ?_)
             clear hK K
             refine norm_ (a' := ?_) ?_ ?_
             rotate_left
             ·
              show Act.put _ (some 14) _ = _
              simp only [Act.put, List.setIfInBounds_toArray, List.set_cons_zero, List.set_cons_succ, i64_w]
              rfl
             exact norm_ (by first | (simp only [putAll, Act.put, List.setIfInBounds_toArray, List.set_cons_zero, List.set_cons_succ]; done) | (simp only [putAll, Act.put, List.setIfInBounds_toArray, List.set_cons_zero, List.set_cons_succ]; rfl)) (hJ3 () _ ⟨hHeld, (bk _ gb169), (bk _ gb170), (bw w)⟩)
            ·
             skip
             refine box_step ?hg (N := 9) ?hd (cs := #[.int .i64 0, .int .i64 0]) (t := 103) ?hr ?_; (case hd => rfl); (case hg => rfl); (case hr => first | (go_simp; done) | (go_simp; rfl))
             intro gb175 hg w13 hbox hb
             have BK175 := Bk.mk (hbox)
             have GW175 := eB w hg
             have GE175 := eB w hg
             have NB169_175 := nB gb169 hg
             have NB175_169 := nB' gb169 hg
             have NB170_175 := nB gb170 hg
             have NB175_170 := nB' gb170 hg
             replace BK169 := kB gb169 hb
             replace BK170 := kB gb170 hb
             replace HB := bS w hb
             clear hb hbox hg
             refine hK.out _ _ ⟨bc BK169 0, bc BK169 1, bc BK169 2⟩ (fun hHeld => ?_)
             clear hK K
             refine norm_ (a' := ?_) ?_ ?_
             rotate_left
             ·
              show Act.put _ (some 9) _ = _
              simp only [Act.put, List.setIfInBounds_toArray, List.set_cons_zero, List.set_cons_succ, i64_w]
              rfl
             exact norm_ (by first | (simp only [putAll, Act.put, List.setIfInBounds_toArray, List.set_cons_zero, List.set_cons_succ]; done) | (simp only [putAll, Act.put, List.setIfInBounds_toArray, List.set_cons_zero, List.set_cons_succ]; rfl)) (hJ8 (gb175) _ ⟨hHeld, (bk _ gb169), (bk _ gb170), (bk _ gb175), GW175.out, GE175.out, NB169_175.out, NB175_169.out, NB170_175.out, NB175_170.out, (bw w)⟩)
            ·
             skip
             refine box_step ?hg (N := 10) ?hd (cs := #[.int .i64 0, .int .i64 0]) (t := 103) ?hr ?_; (case hd => rfl); (case hg => rfl); (case hr => first | (go_simp; done) | (go_simp; rfl))
             intro gb176 hg w13 hbox hb
             have BK176 := Bk.mk (hbox)
             have GW176 := eB w hg
             have GE176 := eB w hg
             have NB169_176 := nB gb169 hg
             have NB176_169 := nB' gb169 hg
             have NB170_176 := nB gb170 hg
             have NB176_170 := nB' gb170 hg
             replace BK169 := kB gb169 hb
             replace BK170 := kB gb170 hb
             replace HB := bS w hb
             clear hb hbox hg
             refine hK.out _ _ ⟨bc BK169 0, bc BK169 1, bc BK169 2⟩ (fun hHeld => ?_)
             clear hK K
             refine norm_ (a' := ?_) ?_ ?_
             rotate_left
             ·
              show Act.put _ (some 10) _ = _
              simp only [Act.put, List.setIfInBounds_toArray, List.set_cons_zero, List.set_cons_succ, i64_w]
              rfl
             exact norm_ (by first | (simp only [putAll, Act.put, List.setIfInBounds_toArray, List.set_cons_zero, List.set_cons_succ]; done) | (simp only [putAll, Act.put, List.setIfInBounds_toArray, List.set_cons_zero, List.set_cons_succ]; rfl)) (hJ9 (gb176) _ ⟨hHeld, (bk _ gb169), (bk _ gb170), (bk _ gb176), GW176.out, GE176.out, NB169_176.out, NB176_169.out, NB170_176.out, NB176_170.out, (bw w)⟩)
           ·
            skip
            rintro gb176 w14 ⟨hS_, h0_, h1_, h2_, h3_, h4_, h5_, h6_, h7_, h8_, h9_⟩
            have n0_ : Bk w14 gb169 (.cells #[.int .i64 a0_0, .int .i64 a0_1, .slice A0_2 l0_2.length c0_2] 24 (0, 0)) := ⟨h0_⟩
            have n1_ : Bk w14 gb170 (.cells #[.int .i64 0, .int .i64 0] 103 (0, 0)) := ⟨h1_⟩
            have n2_ : Bk w14 gb176 (.cells #[.int .i64 0, .int .i64 0] 103 (0, 0)) := ⟨h2_⟩
            have n3_ : Ge w gb176 := ⟨h3_⟩
            have n4_ : Ge w gb176 := ⟨h4_⟩
            have n5_ : Nb gb169 gb176 := ⟨h5_⟩
            have n6_ : Nb gb176 gb169 := ⟨h6_⟩
            have n7_ : Nb gb170 gb176 := ⟨h7_⟩
            have n8_ : Nb gb176 gb170 := ⟨h8_⟩
            have n9_ : Bw w w14 := ⟨h9_⟩
            clear BK169 BK170 HB h0_ h1_ h2_ h3_ h4_ h5_ h6_ h7_ h8_ h9_
            have BK169 := n0_
            have BK170 := n1_
            have BK176 := n2_
            have GW176 := n3_
            have GE176 := n4_
            have NB169_176 := n5_
            have NB176_169 := n6_
            have NB170_176 := n7_
            have NB176_170 := n8_
            have HB := n9_
            clear n0_ n1_ n2_ n3_ n4_ n5_ n6_ n7_ n8_ n9_
            have hHeld : w14.cell? ⟨gb169, 0, none⟩ = some (.int .i64 a0_0) ∧ w14.cell? ⟨gb169, 1, none⟩ = some (.int .i64 a0_1) ∧ w14.cell? ⟨gb169, 2, none⟩ = some (.slice A0_2 l0_2.length c0_2) := hS_
            refine norm_ (a' := ?_) ?_ ?_
            rotate_left
            ·
             simp only [putAll, Act.put, List.setIfInBounds_toArray, List.set_cons_zero, List.set_cons_succ]
             rfl
            refine two_ (i := 3) (j := 8) (Ni := some 14) (Nj := some 9) #[true, true, true, true, true, true, true, false, false, true, false, false] #[true, true, true, false, true, true, true, false, true, true, false, false] rfl rfl rfl rfl (two_of HT_.out (by kernel_rfl)) (by decide) (by decide) (fun K hK => ?_) (fun K hK => ?_)
            ·
             skip
             refine goesM Tryd.func77 (by kernel_rfl) rfl #[.agg #[.int .i64 a0_0, .int .i64 a0_1, .slice A0_2 l0_2.length c0_2], .int .i64 a1, .int .i64 a3] (by rfl) rfl rfl (by rfl) ?_
             with_reducible refine (course_drift.calls k a0_0 a0_1 _ _ l0_2 a1 a3 t171 t172 _ ?side1 ?side2 A5.out).mono ?_
             (case side1 => exact cP (Kd.C_below HR0_2.out HB.out))
             (case side2 => exact HC0_2.out)
             rintro e w15 ⟨rfl, hb⟩
             refine ⟨_, rfl, ?_⟩
             replace BK169 := kB gb169 hb
             replace BK170 := kB gb170 hb
             replace BK176 := kB gb176 hb
             replace HB := bS w hb
             (try clear hb)
             refine hK.out _ _ ⟨bc BK169 0, bc BK169 1, bc BK169 2⟩ (fun hHeld => ?_)
             clear hK K
             refine norm_ (a' := ?_) ?_ ?_
             rotate_left
             ·
              show Act.put _ (some 14) _ = _
              simp only [Act.put, List.setIfInBounds_toArray, List.set_cons_zero, List.set_cons_succ, i64_w]
              rfl
             exact norm_ (by first | (simp only [putAll, Act.put, List.setIfInBounds_toArray, List.set_cons_zero, List.set_cons_succ]; done) | (simp only [putAll, Act.put, List.setIfInBounds_toArray, List.set_cons_zero, List.set_cons_succ]; rfl)) (hJ3_9 (gb176) _ ⟨hHeld, (bk _ gb169), (bk _ gb170), (bk _ gb176), GW176.out, GE176.out, NB169_176.out, NB176_169.out, NB170_176.out, NB176_170.out, (bw w)⟩)
            ·
             skip
             refine box_step ?hg (N := 9) ?hd (cs := #[.int .i64 0, .int .i64 0]) (t := 103) ?hr ?_; (case hd => rfl); (case hg => rfl); (case hr => first | (go_simp; done) | (go_simp; rfl))
             intro gb175 hg w15 hbox hb
             have BK175 := Bk.mk (hbox)
             have GW175 := eB w hg
             have GE175 := eB w hg
             have NB169_175 := nB gb169 hg
             have NB175_169 := nB' gb169 hg
             have NB170_175 := nB gb170 hg
             have NB175_170 := nB' gb170 hg
             have NB176_175 := nB gb176 hg
             have NB175_176 := nB' gb176 hg
             replace BK169 := kB gb169 hb
             replace BK170 := kB gb170 hb
             replace BK176 := kB gb176 hb
             replace HB := bS w hb
             clear hb hbox hg
             refine hK.out _ _ ⟨bc BK169 0, bc BK169 1, bc BK169 2⟩ (fun hHeld => ?_)
             clear hK K
             refine norm_ (a' := ?_) ?_ ?_
             rotate_left
             ·
              show Act.put _ (some 9) _ = _
              simp only [Act.put, List.setIfInBounds_toArray, List.set_cons_zero, List.set_cons_succ, i64_w]
              rfl
             exact norm_ (by first | (simp only [putAll, Act.put, List.setIfInBounds_toArray, List.set_cons_zero, List.set_cons_succ]; done) | (simp only [putAll, Act.put, List.setIfInBounds_toArray, List.set_cons_zero, List.set_cons_succ]; rfl)) (hJ8_9 (gb175, gb176) _ ⟨hHeld, (bk _ gb169), (bk _ gb170), (bk _ gb175), (bk _ gb176), GW175.out, GE175.out, NB169_175.out, NB175_169.out, NB170_175.out, NB175_170.out, NB176_175.out, NB175_176.out, GW176.out, GE176.out, NB169_176.out, NB176_169.out, NB170_176.out, NB176_170.out, (bw w)⟩)
          ·
           skip
           rintro gb175 w14 ⟨hS_, h0_, h1_, h2_, h3_, h4_, h5_, h6_, h7_, h8_, h9_⟩
           have n0_ : Bk w14 gb169 (.cells #[.int .i64 a0_0, .int .i64 a0_1, .slice A0_2 l0_2.length c0_2] 24 (0, 0)) := ⟨h0_⟩
           have n1_ : Bk w14 gb170 (.cells #[.int .i64 0, .int .i64 0] 103 (0, 0)) := ⟨h1_⟩
           have n2_ : Bk w14 gb175 (.cells #[.int .i64 0, .int .i64 0] 103 (0, 0)) := ⟨h2_⟩
           have n3_ : Ge w gb175 := ⟨h3_⟩
           have n4_ : Ge w gb175 := ⟨h4_⟩
           have n5_ : Nb gb169 gb175 := ⟨h5_⟩
           have n6_ : Nb gb175 gb169 := ⟨h6_⟩
           have n7_ : Nb gb170 gb175 := ⟨h7_⟩
           have n8_ : Nb gb175 gb170 := ⟨h8_⟩
           have n9_ : Bw w w14 := ⟨h9_⟩
           clear BK169 BK170 HB h0_ h1_ h2_ h3_ h4_ h5_ h6_ h7_ h8_ h9_
           have BK169 := n0_
           have BK170 := n1_
           have BK175 := n2_
           have GW175 := n3_
           have GE175 := n4_
           have NB169_175 := n5_
           have NB175_169 := n6_
           have NB170_175 := n7_
           have NB175_170 := n8_
           have HB := n9_
           clear n0_ n1_ n2_ n3_ n4_ n5_ n6_ n7_ n8_ n9_
           have hHeld : w14.cell? ⟨gb169, 0, none⟩ = some (.int .i64 a0_0) ∧ w14.cell? ⟨gb169, 1, none⟩ = some (.int .i64 a0_1) ∧ w14.cell? ⟨gb169, 2, none⟩ = some (.slice A0_2 l0_2.length c0_2) := hS_
           refine norm_ (a' := ?_) ?_ ?_
           rotate_left
           ·
            simp only [putAll, Act.put, List.setIfInBounds_toArray, List.set_cons_zero, List.set_cons_succ]
            rfl
           refine two_ (i := 3) (j := 9) (Ni := some 14) (Nj := some 10) #[true, true, true, true, true, true, true, false, true, false, false, false] #[true, true, true, false, true, true, true, false, true, true, false, false] rfl rfl rfl rfl (two_of HT_.out (by kernel_rfl)) (by decide) (by decide) (fun K hK => ?_) (fun K hK => ?_)
           ·
            skip
            refine goesM Tryd.func77 (by kernel_rfl) rfl #[.agg #[.int .i64 a0_0, .int .i64 a0_1, .slice A0_2 l0_2.length c0_2], .int .i64 a1, .int .i64 a3] (by rfl) rfl rfl (by rfl) ?_
            with_reducible refine (course_drift.calls k a0_0 a0_1 _ _ l0_2 a1 a3 t171 t172 _ ?side1 ?side2 A5.out).mono ?_
            (case side1 => exact cP (Kd.C_below HR0_2.out HB.out))
            (case side2 => exact HC0_2.out)
            rintro e w15 ⟨rfl, hb⟩
            refine ⟨_, rfl, ?_⟩
            replace BK169 := kB gb169 hb
            replace BK170 := kB gb170 hb
            replace BK175 := kB gb175 hb
            replace HB := bS w hb
            (try clear hb)
            refine hK.out _ _ ⟨bc BK169 0, bc BK169 1, bc BK169 2⟩ (fun hHeld => ?_)
            clear hK K
            refine norm_ (a' := ?_) ?_ ?_
            rotate_left
            ·
             show Act.put _ (some 14) _ = _
             simp only [Act.put, List.setIfInBounds_toArray, List.set_cons_zero, List.set_cons_succ, i64_w]
             rfl
            exact norm_ (by first | (simp only [putAll, Act.put, List.setIfInBounds_toArray, List.set_cons_zero, List.set_cons_succ]; done) | (simp only [putAll, Act.put, List.setIfInBounds_toArray, List.set_cons_zero, List.set_cons_succ]; rfl)) (hJ3_8 (gb175) _ ⟨hHeld, (bk _ gb169), (bk _ gb170), (bk _ gb175), GW175.out, GE175.out, NB169_175.out, NB175_169.out, NB170_175.out, NB175_170.out, (bw w)⟩)
           ·
            skip
            refine box_step ?hg (N := 10) ?hd (cs := #[.int .i64 0, .int .i64 0]) (t := 103) ?hr ?_; (case hd => rfl); (case hg => rfl); (case hr => first | (go_simp; done) | (go_simp; rfl))
            intro gb176 hg w15 hbox hb
            have BK176 := Bk.mk (hbox)
            have GW176 := eB w hg
            have GE176 := eB w hg
            have NB169_176 := nB gb169 hg
            have NB176_169 := nB' gb169 hg
            have NB170_176 := nB gb170 hg
            have NB176_170 := nB' gb170 hg
            have NB175_176 := nB gb175 hg
            have NB176_175 := nB' gb175 hg
            replace BK169 := kB gb169 hb
            replace BK170 := kB gb170 hb
            replace BK175 := kB gb175 hb
            replace HB := bS w hb
            clear hb hbox hg
            refine hK.out _ _ ⟨bc BK169 0, bc BK169 1, bc BK169 2⟩ (fun hHeld => ?_)
            clear hK K
            refine norm_ (a' := ?_) ?_ ?_
            rotate_left
            ·
             show Act.put _ (some 10) _ = _
             simp only [Act.put, List.setIfInBounds_toArray, List.set_cons_zero, List.set_cons_succ, i64_w]
             rfl
            exact norm_ (by first | (simp only [putAll, Act.put, List.setIfInBounds_toArray, List.set_cons_zero, List.set_cons_succ]; done) | (simp only [putAll, Act.put, List.setIfInBounds_toArray, List.set_cons_zero, List.set_cons_succ]; rfl)) (hJ8_9 (gb175, gb176) _ ⟨hHeld, (bk _ gb169), (bk _ gb170), (bk _ gb175), (bk _ gb176), GW175.out, GE175.out, NB169_175.out, NB175_169.out, NB170_175.out, NB175_170.out, NB176_175.out, NB175_176.out, GW176.out, GE176.out, NB169_176.out, NB176_169.out, NB170_176.out, NB176_170.out, (bw w)⟩)
         ·
          skip
          rintro _ w14 ⟨hS_, h0_, h1_, h2_⟩
          have n0_ : Bk w14 gb169 (.cells #[.int .i64 a0_0, .int .i64 a0_1, .slice A0_2 l0_2.length c0_2] 24 (0, 0)) := ⟨h0_⟩
          have n1_ : Bk w14 gb170 (.cells #[.int .i64 0, .int .i64 0] 103 (0, 0)) := ⟨h1_⟩
          have n2_ : Bw w w14 := ⟨h2_⟩
          clear BK169 BK170 HB h0_ h1_ h2_
          have BK169 := n0_
          have BK170 := n1_
          have HB := n2_
          clear n0_ n1_ n2_
          have hHeld : w14.cell? ⟨gb169, 0, none⟩ = some (.int .i64 a0_0) ∧ w14.cell? ⟨gb169, 1, none⟩ = some (.int .i64 a0_1) ∧ w14.cell? ⟨gb169, 2, none⟩ = some (.slice A0_2 l0_2.length c0_2) := hS_
          refine norm_ (a' := ?_) ?_ ?_
          rotate_left
          ·
           simp only [putAll, Act.put, List.setIfInBounds_toArray, List.set_cons_zero, List.set_cons_succ]
           rfl
          refine three_ (i := 7) (j := 8) (k := 9) (Ni := some 18) (Nj := some 9) (Nk := some 10) #[true, true, true, true, true, true, true, true, false, false, false, false] #[true, true, true, true, true, true, true, false, true, false, false, false] #[true, true, true, true, true, true, true, false, false, true, false, false] rfl rfl rfl rfl rfl rfl (three_of HT_.out (by kernel_rfl)) (by decide) (by decide) (by decide) (fun K hK => ?_) (fun K hK => ?_) (fun K hK => ?_)
          ·
           skip
           refine goesM Tryd.func77 (by kernel_rfl) rfl #[.agg #[.int .i64 a0_0, .int .i64 a0_1, .slice A0_2 l0_2.length c0_2], .int .i64 a2, .int .i64 a3] (by rfl) rfl rfl (by rfl) ?_
           with_reducible refine (course_drift.calls k a0_0 a0_1 _ _ l0_2 a2 a3 t173 t174 _ ?side1 ?side2 A6.out).mono ?_
           (case side1 => exact cP (Kd.C_below HR0_2.out HB.out))
           (case side2 => exact HC0_2.out)
           rintro e w15 ⟨rfl, hb⟩
           refine ⟨_, rfl, ?_⟩
           replace BK169 := kB gb169 hb
           replace BK170 := kB gb170 hb
           replace HB := bS w hb
           (try clear hb)
           refine hK.out _ _ ⟨bc BK169 0, bc BK169 1, bc BK169 2⟩ (fun hHeld => ?_)
           clear hK K
           refine norm_ (a' := ?_) ?_ ?_
           rotate_left
           ·
            show Act.put _ (some 18) _ = _
            simp only [Act.put, List.setIfInBounds_toArray, List.set_cons_zero, List.set_cons_succ, i64_w]
            rfl
           exact norm_ (by first | (simp only [putAll, Act.put, List.setIfInBounds_toArray, List.set_cons_zero, List.set_cons_succ]; done) | (simp only [putAll, Act.put, List.setIfInBounds_toArray, List.set_cons_zero, List.set_cons_succ]; rfl)) (hJ3_7 () _ ⟨hHeld, (bk _ gb169), (bk _ gb170), (bw w)⟩)
          ·
           skip
           refine box_step ?hg (N := 9) ?hd (cs := #[.int .i64 0, .int .i64 0]) (t := 103) ?hr ?_; (case hd => rfl); (case hg => rfl); (case hr => first | (go_simp; done) | (go_simp; rfl))
           intro gb175 hg w15 hbox hb
           have BK175 := Bk.mk (hbox)
           have GW175 := eB w hg
           have GE175 := eB w hg
           have NB169_175 := nB gb169 hg
           have NB175_169 := nB' gb169 hg
           have NB170_175 := nB gb170 hg
           have NB175_170 := nB' gb170 hg
           replace BK169 := kB gb169 hb
           replace BK170 := kB gb170 hb
           replace HB := bS w hb
           clear hb hbox hg
           refine hK.out _ _ ⟨bc BK169 0, bc BK169 1, bc BK169 2⟩ (fun hHeld => ?_)
           clear hK K
           refine norm_ (a' := ?_) ?_ ?_
           rotate_left
           ·
            show Act.put _ (some 9) _ = _
            simp only [Act.put, List.setIfInBounds_toArray, List.set_cons_zero, List.set_cons_succ, i64_w]
            rfl
           exact norm_ (by first | (simp only [putAll, Act.put, List.setIfInBounds_toArray, List.set_cons_zero, List.set_cons_succ]; done) | (simp only [putAll, Act.put, List.setIfInBounds_toArray, List.set_cons_zero, List.set_cons_succ]; rfl)) (hJ3_8 (gb175) _ ⟨hHeld, (bk _ gb169), (bk _ gb170), (bk _ gb175), GW175.out, GE175.out, NB169_175.out, NB175_169.out, NB170_175.out, NB175_170.out, (bw w)⟩)
          ·
           skip
           refine box_step ?hg (N := 10) ?hd (cs := #[.int .i64 0, .int .i64 0]) (t := 103) ?hr ?_; (case hd => rfl); (case hg => rfl); (case hr => first | (go_simp; done) | (go_simp; rfl))
           intro gb176 hg w15 hbox hb
           have BK176 := Bk.mk (hbox)
           have GW176 := eB w hg
           have GE176 := eB w hg
           have NB169_176 := nB gb169 hg
           have NB176_169 := nB' gb169 hg
           have NB170_176 := nB gb170 hg
           have NB176_170 := nB' gb170 hg
           replace BK169 := kB gb169 hb
           replace BK170 := kB gb170 hb
           replace HB := bS w hb
           clear hb hbox hg
           refine hK.out _ _ ⟨bc BK169 0, bc BK169 1, bc BK169 2⟩ (fun hHeld => ?_)
           clear hK K
           refine norm_ (a' := ?_) ?_ ?_
           rotate_left
           ·
            show Act.put _ (some 10) _ = _
            simp only [Act.put, List.setIfInBounds_toArray, List.set_cons_zero, List.set_cons_succ, i64_w]
            rfl
           exact norm_ (by first | (simp only [putAll, Act.put, List.setIfInBounds_toArray, List.set_cons_zero, List.set_cons_succ]; done) | (simp only [putAll, Act.put, List.setIfInBounds_toArray, List.set_cons_zero, List.set_cons_succ]; rfl)) (hJ3_9 (gb176) _ ⟨hHeld, (bk _ gb169), (bk _ gb170), (bk _ gb176), GW176.out, GE176.out, NB169_176.out, NB176_169.out, NB170_176.out, NB176_170.out, (bw w)⟩)
        ·
         skip
         rintro ⟨gb175, gb176⟩ w15 ⟨hS_, h0_, h1_, h2_, h3_, h4_, h5_, h6_, h7_, h8_, h9_, h10_, h11_, h12_, h13_, h14_, h15_, h16_, h17_, h18_⟩
         have n0_ : Bk w15 gb169 (.cells #[.int .i64 a0_0, .int .i64 a0_1, .slice A0_2 l0_2.length c0_2] 24 (0, 0)) := ⟨h0_⟩
         have n1_ : Bk w15 gb170 (.cells #[.int .i64 0, .int .i64 0] 103 (0, 0)) := ⟨h1_⟩
         have n2_ : Bk w15 gb175 (.cells #[.int .i64 0, .int .i64 0] 103 (0, 0)) := ⟨h2_⟩
         have n3_ : Bk w15 gb176 (.cells #[.int .i64 0, .int .i64 0] 103 (0, 0)) := ⟨h3_⟩
         have n4_ : Ge w gb175 := ⟨h4_⟩
         have n5_ : Ge w gb175 := ⟨h5_⟩
         have n6_ : Nb gb169 gb175 := ⟨h6_⟩
         have n7_ : Nb gb175 gb169 := ⟨h7_⟩
         have n8_ : Nb gb170 gb175 := ⟨h8_⟩
         have n9_ : Nb gb175 gb170 := ⟨h9_⟩
         have n10_ : Nb gb176 gb175 := ⟨h10_⟩
         have n11_ : Nb gb175 gb176 := ⟨h11_⟩
         have n12_ : Ge w gb176 := ⟨h12_⟩
         have n13_ : Ge w gb176 := ⟨h13_⟩
         have n14_ : Nb gb169 gb176 := ⟨h14_⟩
         have n15_ : Nb gb176 gb169 := ⟨h15_⟩
         have n16_ : Nb gb170 gb176 := ⟨h16_⟩
         have n17_ : Nb gb176 gb170 := ⟨h17_⟩
         have n18_ : Bw w w15 := ⟨h18_⟩
         clear BK169 BK170 HB h0_ h1_ h2_ h3_ h4_ h5_ h6_ h7_ h8_ h9_ h10_ h11_ h12_ h13_ h14_ h15_ h16_ h17_ h18_
         have BK169 := n0_
         have BK170 := n1_
         have BK175 := n2_
         have BK176 := n3_
         have GW175 := n4_
         have GE175 := n5_
         have NB169_175 := n6_
         have NB175_169 := n7_
         have NB170_175 := n8_
         have NB175_170 := n9_
         have NB176_175 := n10_
         have NB175_176 := n11_
         have GW176 := n12_
         have GE176 := n13_
         have NB169_176 := n14_
         have NB176_169 := n15_
         have NB170_176 := n16_
         have NB176_170 := n17_
         have HB := n18_
         clear n0_ n1_ n2_ n3_ n4_ n5_ n6_ n7_ n8_ n9_ n10_ n11_ n12_ n13_ n14_ n15_ n16_ n17_ n18_
         have hHeld : w15.cell? ⟨gb169, 0, none⟩ = some (.int .i64 a0_0) ∧ w15.cell? ⟨gb169, 1, none⟩ = some (.int .i64 a0_1) ∧ w15.cell? ⟨gb169, 2, none⟩ = some (.slice A0_2 l0_2.length c0_2) := hS_
         refine norm_ (a' := ?_) ?_ ?_
         rotate_left
         ·
          simp only [putAll, Act.put, List.setIfInBounds_toArray, List.set_cons_zero, List.set_cons_succ]
          rfl
         refine one_ (i := 3) (N := some 14) #[true, true, true, true, true, true, true, false, true, true, false, false] rfl rfl (one_of HT_.out (by kernel_rfl)) (by decide) (fun K hK => ?_)
         refine goesM Tryd.func77 (by kernel_rfl) rfl #[.agg #[.int .i64 a0_0, .int .i64 a0_1, .slice A0_2 l0_2.length c0_2], .int .i64 a1, .int .i64 a3] (by rfl) rfl rfl (by rfl) ?_
         with_reducible refine (course_drift.calls k a0_0 a0_1 _ _ l0_2 a1 a3 t171 t172 _ ?side1 ?side2 A5.out).mono ?_
         (case side1 => exact cP (Kd.C_below HR0_2.out HB.out))
         (case side2 => exact HC0_2.out)
         rintro e w16 ⟨rfl, hb⟩
         refine ⟨_, rfl, ?_⟩
         replace BK169 := kB gb169 hb
         replace BK170 := kB gb170 hb
         replace BK175 := kB gb175 hb
         replace BK176 := kB gb176 hb
         replace HB := bS w hb
         (try clear hb)
         refine hK.out _ _ ⟨bc BK169 0, bc BK169 1, bc BK169 2⟩ (fun hHeld => ?_)
         clear hK K
         refine norm_ (a' := ?_) ?_ ?_
         rotate_left
         ·
          show Act.put _ (some 14) _ = _
          simp only [Act.put, List.setIfInBounds_toArray, List.set_cons_zero, List.set_cons_succ, i64_w]
          rfl
         exact norm_ (by first | (simp only [putAll, Act.put, List.setIfInBounds_toArray, List.set_cons_zero, List.set_cons_succ]; done) | (simp only [putAll, Act.put, List.setIfInBounds_toArray, List.set_cons_zero, List.set_cons_succ]; rfl)) (hJ3_8_9 (gb175, gb176) _ ⟨hHeld, (bk _ gb169), (bk _ gb170), (bk _ gb175), (bk _ gb176), GW175.out, GE175.out, NB169_175.out, NB175_169.out, NB170_175.out, NB175_170.out, NB176_175.out, NB175_176.out, GW176.out, GE176.out, NB169_176.out, NB176_169.out, NB170_176.out, NB176_170.out, (bw w)⟩)
       ·
        skip
        rintro gb176 w15 ⟨hS_, h0_, h1_, h2_, h3_, h4_, h5_, h6_, h7_, h8_, h9_⟩
        have n0_ : Bk w15 gb169 (.cells #[.int .i64 a0_0, .int .i64 a0_1, .slice A0_2 l0_2.length c0_2] 24 (0, 0)) := ⟨h0_⟩
        have n1_ : Bk w15 gb170 (.cells #[.int .i64 0, .int .i64 0] 103 (0, 0)) := ⟨h1_⟩
        have n2_ : Bk w15 gb176 (.cells #[.int .i64 0, .int .i64 0] 103 (0, 0)) := ⟨h2_⟩
        have n3_ : Ge w gb176 := ⟨h3_⟩
        have n4_ : Ge w gb176 := ⟨h4_⟩
        have n5_ : Nb gb169 gb176 := ⟨h5_⟩
        have n6_ : Nb gb176 gb169 := ⟨h6_⟩
        have n7_ : Nb gb170 gb176 := ⟨h7_⟩
        have n8_ : Nb gb176 gb170 := ⟨h8_⟩
        have n9_ : Bw w w15 := ⟨h9_⟩
        clear BK169 BK170 HB h0_ h1_ h2_ h3_ h4_ h5_ h6_ h7_ h8_ h9_
        have BK169 := n0_
        have BK170 := n1_
        have BK176 := n2_
        have GW176 := n3_
        have GE176 := n4_
        have NB169_176 := n5_
        have NB176_169 := n6_
        have NB170_176 := n7_
        have NB176_170 := n8_
        have HB := n9_
        clear n0_ n1_ n2_ n3_ n4_ n5_ n6_ n7_ n8_ n9_
        have hHeld : w15.cell? ⟨gb169, 0, none⟩ = some (.int .i64 a0_0) ∧ w15.cell? ⟨gb169, 1, none⟩ = some (.int .i64 a0_1) ∧ w15.cell? ⟨gb169, 2, none⟩ = some (.slice A0_2 l0_2.length c0_2) := hS_
        refine norm_ (a' := ?_) ?_ ?_
        rotate_left
        ·
         simp only [putAll, Act.put, List.setIfInBounds_toArray, List.set_cons_zero, List.set_cons_succ]
         rfl
        refine two_ (i := 7) (j := 8) (Ni := some 18) (Nj := some 9) #[true, true, true, true, true, true, true, true, false, true, false, false] #[true, true, true, true, true, true, true, false, true, true, false, false] rfl rfl rfl rfl (two_of HT_.out (by kernel_rfl)) (by decide) (by decide) (fun K hK => ?_) (fun K hK => ?_)
        ·
         skip
         refine goesM Tryd.func77 (by kernel_rfl) rfl #[.agg #[.int .i64 a0_0, .int .i64 a0_1, .slice A0_2 l0_2.length c0_2], .int .i64 a2, .int .i64 a3] (by rfl) rfl rfl (by rfl) ?_
         with_reducible refine (course_drift.calls k a0_0 a0_1 _ _ l0_2 a2 a3 t173 t174 _ ?side1 ?side2 A6.out).mono ?_
         (case side1 => exact cP (Kd.C_below HR0_2.out HB.out))
         (case side2 => exact HC0_2.out)
         rintro e w16 ⟨rfl, hb⟩
         refine ⟨_, rfl, ?_⟩
         replace BK169 := kB gb169 hb
         replace BK170 := kB gb170 hb
         replace BK176 := kB gb176 hb
         replace HB := bS w hb
         (try clear hb)
         refine hK.out _ _ ⟨bc BK169 0, bc BK169 1, bc BK169 2⟩ (fun hHeld => ?_)
         clear hK K
         refine norm_ (a' := ?_) ?_ ?_
         rotate_left
         ·
          show Act.put _ (some 18) _ = _
          simp only [Act.put, List.setIfInBounds_toArray, List.set_cons_zero, List.set_cons_succ, i64_w]
          rfl
         exact norm_ (by first | (simp only [putAll, Act.put, List.setIfInBounds_toArray, List.set_cons_zero, List.set_cons_succ]; done) | (simp only [putAll, Act.put, List.setIfInBounds_toArray, List.set_cons_zero, List.set_cons_succ]; rfl)) (hJ3_7_9 (gb176) _ ⟨hHeld, (bk _ gb169), (bk _ gb170), (bk _ gb176), GW176.out, GE176.out, NB169_176.out, NB176_169.out, NB170_176.out, NB176_170.out, (bw w)⟩)
        ·
         skip
         refine box_step ?hg (N := 9) ?hd (cs := #[.int .i64 0, .int .i64 0]) (t := 103) ?hr ?_; (case hd => rfl); (case hg => rfl); (case hr => first | (go_simp; done) | (go_simp; rfl))
         intro gb175 hg w16 hbox hb
         have BK175 := Bk.mk (hbox)
         have GW175 := eB w hg
         have GE175 := eB w hg
         have NB169_175 := nB gb169 hg
         have NB175_169 := nB' gb169 hg
         have NB170_175 := nB gb170 hg
         have NB175_170 := nB' gb170 hg
         have NB176_175 := nB gb176 hg
         have NB175_176 := nB' gb176 hg
         replace BK169 := kB gb169 hb
         replace BK170 := kB gb170 hb
         replace BK176 := kB gb176 hb
         replace HB := bS w hb
         clear hb hbox hg
         refine hK.out _ _ ⟨bc BK169 0, bc BK169 1, bc BK169 2⟩ (fun hHeld => ?_)
         clear hK K
         refine norm_ (a' := ?_) ?_ ?_
         rotate_left
         ·
          show Act.put _ (some 9) _ = _
          simp only [Act.put, List.setIfInBounds_toArray, List.set_cons_zero, List.set_cons_succ, i64_w]
          rfl
         exact norm_ (by first | (simp only [putAll, Act.put, List.setIfInBounds_toArray, List.set_cons_zero, List.set_cons_succ]; done) | (simp only [putAll, Act.put, List.setIfInBounds_toArray, List.set_cons_zero, List.set_cons_succ]; rfl)) (hJ3_8_9 (gb175, gb176) _ ⟨hHeld, (bk _ gb169), (bk _ gb170), (bk _ gb175), (bk _ gb176), GW175.out, GE175.out, NB169_175.out, NB175_169.out, NB170_175.out, NB175_170.out, NB176_175.out, NB175_176.out, GW176.out, GE176.out, NB169_176.out, NB176_169.out, NB170_176.out, NB176_170.out, (bw w)⟩)
      ·
       skip
       rintro gb175 w15 ⟨hS_, h0_, h1_, h2_, h3_, h4_, h5_, h6_, h7_, h8_, h9_⟩
       have n0_ : Bk w15 gb169 (.cells #[.int .i64 a0_0, .int .i64 a0_1, .slice A0_2 l0_2.length c0_2] 24 (0, 0)) := ⟨h0_⟩
       have n1_ : Bk w15 gb170 (.cells #[.int .i64 0, .int .i64 0] 103 (0, 0)) := ⟨h1_⟩
       have n2_ : Bk w15 gb175 (.cells #[.int .i64 0, .int .i64 0] 103 (0, 0)) := ⟨h2_⟩
       have n3_ : Ge w gb175 := ⟨h3_⟩
       have n4_ : Ge w gb175 := ⟨h4_⟩
       have n5_ : Nb gb169 gb175 := ⟨h5_⟩
       have n6_ : Nb gb175 gb169 := ⟨h6_⟩
       have n7_ : Nb gb170 gb175 := ⟨h7_⟩
       have n8_ : Nb gb175 gb170 := ⟨h8_⟩
       have n9_ : Bw w w15 := ⟨h9_⟩
       clear BK169 BK170 HB h0_ h1_ h2_ h3_ h4_ h5_ h6_ h7_ h8_ h9_
       have BK169 := n0_
       have BK170 := n1_
       have BK175 := n2_
       have GW175 := n3_
       have GE175 := n4_
       have NB169_175 := n5_
       have NB175_169 := n6_
       have NB170_175 := n7_
       have NB175_170 := n8_
       have HB := n9_
       clear n0_ n1_ n2_ n3_ n4_ n5_ n6_ n7_ n8_ n9_
       have hHeld : w15.cell? ⟨gb169, 0, none⟩ = some (.int .i64 a0_0) ∧ w15.cell? ⟨gb169, 1, none⟩ = some (.int .i64 a0_1) ∧ w15.cell? ⟨gb169, 2, none⟩ = some (.slice A0_2 l0_2.length c0_2) := hS_
       refine norm_ (a' := ?_) ?_ ?_
       rotate_left
       ·
        simp only [putAll, Act.put, List.setIfInBounds_toArray, List.set_cons_zero, List.set_cons_succ]
        rfl
       refine two_ (i := 7) (j := 9) (Ni := some 18) (Nj := some 10) #[true, true, true, true, true, true, true, true, true, false, false, false] #[true, true, true, true, true, true, true, false, true, true, false, false] rfl rfl rfl rfl (two_of HT_.out (by kernel_rfl)) (by decide) (by decide) (fun K hK => ?_) (fun K hK => ?_)
       ·
        skip
        refine goesM Tryd.func77 (by kernel_rfl) rfl #[.agg #[.int .i64 a0_0, .int .i64 a0_1, .slice A0_2 l0_2.length c0_2], .int .i64 a2, .int .i64 a3] (by rfl) rfl rfl (by rfl) ?_
        with_reducible refine (course_drift.calls k a0_0 a0_1 _ _ l0_2 a2 a3 t173 t174 _ ?side1 ?side2 A6.out).mono ?_
        (case side1 => exact cP (Kd.C_below HR0_2.out HB.out))
        (case side2 => exact HC0_2.out)
        rintro e w16 ⟨rfl, hb⟩
        refine ⟨_, rfl, ?_⟩
        replace BK169 := kB gb169 hb
        replace BK170 := kB gb170 hb
        replace BK175 := kB gb175 hb
        replace HB := bS w hb
        (try clear hb)
        refine hK.out _ _ ⟨bc BK169 0, bc BK169 1, bc BK169 2⟩ (fun hHeld => ?_)
        clear hK K
        refine norm_ (a' := ?_) ?_ ?_
        rotate_left
        ·
         show Act.put _ (some 18) _ = _
         simp only [Act.put, List.setIfInBounds_toArray, List.set_cons_zero, List.set_cons_succ, i64_w]
         rfl
        exact norm_ (by first | (simp only [putAll, Act.put, List.setIfInBounds_toArray, List.set_cons_zero, List.set_cons_succ]; done) | (simp only [putAll, Act.put, List.setIfInBounds_toArray, List.set_cons_zero, List.set_cons_succ]; rfl)) (hJ3_7_8 (gb175) _ ⟨hHeld, (bk _ gb169), (bk _ gb170), (bk _ gb175), GW175.out, GE175.out, NB169_175.out, NB175_169.out, NB170_175.out, NB175_170.out, (bw w)⟩)
       ·
        skip
        refine box_step ?hg (N := 10) ?hd (cs := #[.int .i64 0, .int .i64 0]) (t := 103) ?hr ?_; (case hd => rfl); (case hg => rfl); (case hr => first | (go_simp; done) | (go_simp; rfl))
        intro gb176 hg w16 hbox hb
        have BK176 := Bk.mk (hbox)
        have GW176 := eB w hg
        have GE176 := eB w hg
        have NB169_176 := nB gb169 hg
        have NB176_169 := nB' gb169 hg
        have NB170_176 := nB gb170 hg
        have NB176_170 := nB' gb170 hg
        have NB175_176 := nB gb175 hg
        have NB176_175 := nB' gb175 hg
        replace BK169 := kB gb169 hb
        replace BK170 := kB gb170 hb
        replace BK175 := kB gb175 hb
        replace HB := bS w hb
        clear hb hbox hg
        refine hK.out _ _ ⟨bc BK169 0, bc BK169 1, bc BK169 2⟩ (fun hHeld => ?_)
        clear hK K
        refine norm_ (a' := ?_) ?_ ?_
        rotate_left
        ·
         show Act.put _ (some 10) _ = _
         simp only [Act.put, List.setIfInBounds_toArray, List.set_cons_zero, List.set_cons_succ, i64_w]
         rfl
        exact norm_ (by first | (simp only [putAll, Act.put, List.setIfInBounds_toArray, List.set_cons_zero, List.set_cons_succ]; done) | (simp only [putAll, Act.put, List.setIfInBounds_toArray, List.set_cons_zero, List.set_cons_succ]; rfl)) (hJ3_8_9 (gb175, gb176) _ ⟨hHeld, (bk _ gb169), (bk _ gb170), (bk _ gb175), (bk _ gb176), GW175.out, GE175.out, NB169_175.out, NB175_169.out, NB170_175.out, NB175_170.out, NB176_175.out, NB175_176.out, GW176.out, GE176.out, NB169_176.out, NB176_169.out, NB170_176.out, NB176_170.out, (bw w)⟩)
     ·
      skip
      rintro _ w15 ⟨hS_, h0_, h1_, h2_⟩
      have n0_ : Bk w15 gb169 (.cells #[.int .i64 a0_0, .int .i64 a0_1, .slice A0_2 l0_2.length c0_2] 24 (0, 0)) := ⟨h0_⟩
      have n1_ : Bk w15 gb170 (.cells #[.int .i64 0, .int .i64 0] 103 (0, 0)) := ⟨h1_⟩
      have n2_ : Bw w w15 := ⟨h2_⟩
      clear BK169 BK170 HB h0_ h1_ h2_
      have BK169 := n0_
      have BK170 := n1_
      have HB := n2_
      clear n0_ n1_ n2_
      have hHeld : w15.cell? ⟨gb169, 0, none⟩ = some (.int .i64 a0_0) ∧ w15.cell? ⟨gb169, 1, none⟩ = some (.int .i64 a0_1) ∧ w15.cell? ⟨gb169, 2, none⟩ = some (.slice A0_2 l0_2.length c0_2) := hS_
      refine norm_ (a' := ?_) ?_ ?_
      rotate_left
      ·
       simp only [putAll, Act.put, List.setIfInBounds_toArray, List.set_cons_zero, List.set_cons_succ]
       rfl
      refine two_ (i := 8) (j := 9) (Ni := some 9) (Nj := some 10) #[true, true, true, true, true, true, true, true, true, false, false, false] #[true, true, true, true, true, true, true, true, false, true, false, false] rfl rfl rfl rfl (two_of HT_.out (by kernel_rfl)) (by decide) (by decide) (fun K hK => ?_) (fun K hK => ?_)
      ·
       skip
       refine box_step ?hg (N := 9) ?hd (cs := #[.int .i64 0, .int .i64 0]) (t := 103) ?hr ?_; (case hd => rfl); (case hg => rfl); (case hr => first | (go_simp; done) | (go_simp; rfl))
       intro gb175 hg w16 hbox hb
       have BK175 := Bk.mk (hbox)
       have GW175 := eB w hg
       have GE175 := eB w hg
       have NB169_175 := nB gb169 hg
       have NB175_169 := nB' gb169 hg
       have NB170_175 := nB gb170 hg
       have NB175_170 := nB' gb170 hg
       replace BK169 := kB gb169 hb
       replace BK170 := kB gb170 hb
       replace HB := bS w hb
       clear hb hbox hg
       refine hK.out _ _ ⟨bc BK169 0, bc BK169 1, bc BK169 2⟩ (fun hHeld => ?_)
       clear hK K
       refine norm_ (a' := ?_) ?_ ?_
       rotate_left
       ·
        show Act.put _ (some 9) _ = _
        simp only [Act.put, List.setIfInBounds_toArray, List.set_cons_zero, List.set_cons_succ, i64_w]
        rfl
       exact norm_ (by first | (simp only [putAll, Act.put, List.setIfInBounds_toArray, List.set_cons_zero, List.set_cons_succ]; done) | (simp only [putAll, Act.put, List.setIfInBounds_toArray, List.set_cons_zero, List.set_cons_succ]; rfl)) (hJ3_7_8 (gb175) _ ⟨hHeld, (bk _ gb169), (bk _ gb170), (bk _ gb175), GW175.out, GE175.out, NB169_175.out, NB175_169.out, NB170_175.out, NB175_170.out, (bw w)⟩)
      ·
       skip
       refine box_step ?hg (N := 10) ?hd (cs := #[.int .i64 0, .int .i64 0]) (t := 103) ?hr ?_; (case hd => rfl); (case hg => rfl); (case hr => first | (go_simp; done) | (go_simp; rfl))
       intro gb176 hg w16 hbox hb
       have BK176 := Bk.mk (hbox)
       have GW176 := eB w hg
       have GE176 := eB w hg
       have NB169_176 := nB gb169 hg
       have NB176_169 := nB' gb169 hg
       have NB170_176 := nB gb170 hg
       have NB176_170 := nB' gb170 hg
       replace BK169 := kB gb169 hb
       replace BK170 := kB gb170 hb
       replace HB := bS w hb
       clear hb hbox hg
       refine hK.out _ _ ⟨bc BK169 0, bc BK169 1, bc BK169 2⟩ (fun hHeld => ?_)
       clear hK K
       refine norm_ (a' := ?_) ?_ ?_
       rotate_left
       ·
        show Act.put _ (some 10) _ = _
        simp only [Act.put, List.setIfInBounds_toArray, List.set_cons_zero, List.set_cons_succ, i64_w]
        rfl
       exact norm_ (by first | (simp only [putAll, Act.put, List.setIfInBounds_toArray, List.set_cons_zero, List.set_cons_succ]; done) | (simp only [putAll, Act.put, List.setIfInBounds_toArray, List.set_cons_zero, List.set_cons_succ]; rfl)) (hJ3_7_9 (gb176) _ ⟨hHeld, (bk _ gb169), (bk _ gb170), (bk _ gb176), GW176.out, GE176.out, NB169_176.out, NB176_169.out, NB170_176.out, NB176_170.out, (bw w)⟩)
    ·
     skip
     rintro ⟨gb175, gb176⟩ w16 ⟨hS_, h0_, h1_, h2_, h3_, h4_, h5_, h6_, h7_, h8_, h9_, h10_, h11_, h12_, h13_, h14_, h15_, h16_, h17_, h18_⟩
     have n0_ : Bk w16 gb169 (.cells #[.int .i64 a0_0, .int .i64 a0_1, .slice A0_2 l0_2.length c0_2] 24 (0, 0)) := ⟨h0_⟩
     have n1_ : Bk w16 gb170 (.cells #[.int .i64 0, .int .i64 0] 103 (0, 0)) := ⟨h1_⟩
     have n2_ : Bk w16 gb175 (.cells #[.int .i64 0, .int .i64 0] 103 (0, 0)) := ⟨h2_⟩
     have n3_ : Bk w16 gb176 (.cells #[.int .i64 0, .int .i64 0] 103 (0, 0)) := ⟨h3_⟩
     have n4_ : Ge w gb175 := ⟨h4_⟩
     have n5_ : Ge w gb175 := ⟨h5_⟩
     have n6_ : Nb gb169 gb175 := ⟨h6_⟩
     have n7_ : Nb gb175 gb169 := ⟨h7_⟩
     have n8_ : Nb gb170 gb175 := ⟨h8_⟩
     have n9_ : Nb gb175 gb170 := ⟨h9_⟩
     have n10_ : Nb gb176 gb175 := ⟨h10_⟩
     have n11_ : Nb gb175 gb176 := ⟨h11_⟩
     have n12_ : Ge w gb176 := ⟨h12_⟩
     have n13_ : Ge w gb176 := ⟨h13_⟩
     have n14_ : Nb gb169 gb176 := ⟨h14_⟩
     have n15_ : Nb gb176 gb169 := ⟨h15_⟩
     have n16_ : Nb gb170 gb176 := ⟨h16_⟩
     have n17_ : Nb gb176 gb170 := ⟨h17_⟩
     have n18_ : Bw w w16 := ⟨h18_⟩
     clear BK169 BK170 HB h0_ h1_ h2_ h3_ h4_ h5_ h6_ h7_ h8_ h9_ h10_ h11_ h12_ h13_ h14_ h15_ h16_ h17_ h18_
     have BK169 := n0_
     have BK170 := n1_
     have BK175 := n2_
     have BK176 := n3_
     have GW175 := n4_
     have GE175 := n5_
     have NB169_175 := n6_
     have NB175_169 := n7_
     have NB170_175 := n8_
     have NB175_170 := n9_
     have NB176_175 := n10_
     have NB175_176 := n11_
     have GW176 := n12_
     have GE176 := n13_
     have NB169_176 := n14_
     have NB176_169 := n15_
     have NB170_176 := n16_
     have NB176_170 := n17_
     have HB := n18_
     clear n0_ n1_ n2_ n3_ n4_ n5_ n6_ n7_ n8_ n9_ n10_ n11_ n12_ n13_ n14_ n15_ n16_ n17_ n18_
     have hHeld : w16.cell? ⟨gb169, 0, none⟩ = some (.int .i64 a0_0) ∧ w16.cell? ⟨gb169, 1, none⟩ = some (.int .i64 a0_1) ∧ w16.cell? ⟨gb169, 2, none⟩ = some (.slice A0_2 l0_2.length c0_2) := hS_
     refine norm_ (a' := ?_) ?_ ?_
     rotate_left
     ·
      simp only [putAll, Act.put, List.setIfInBounds_toArray, List.set_cons_zero, List.set_cons_succ]
      rfl
     refine one_ (i := 7) (N := some 18) #[true, true, true, true, true, true, true, true, true, true, false, false] rfl rfl (one_of HT_.out (by kernel_rfl)) (by decide) (fun K hK => ?_)
     refine goesM Tryd.func77 (by kernel_rfl) rfl #[.agg #[.int .i64 a0_0, .int .i64 a0_1, .slice A0_2 l0_2.length c0_2], .int .i64 a2, .int .i64 a3] (by rfl) rfl rfl (by rfl) ?_
     with_reducible refine (course_drift.calls k a0_0 a0_1 _ _ l0_2 a2 a3 t173 t174 _ ?side1 ?side2 A6.out).mono ?_
     (case side1 => exact cP (Kd.C_below HR0_2.out HB.out))
     (case side2 => exact HC0_2.out)
     rintro e w17 ⟨rfl, hb⟩
     refine ⟨_, rfl, ?_⟩
     replace BK169 := kB gb169 hb
     replace BK170 := kB gb170 hb
     replace BK175 := kB gb175 hb
     replace BK176 := kB gb176 hb
     replace HB := bS w hb
     (try clear hb)
     refine hK.out _ _ ⟨bc BK169 0, bc BK169 1, bc BK169 2⟩ (fun hHeld => ?_)
     clear hK K
     refine norm_ (a' := ?_) ?_ ?_
     rotate_left
     ·
      show Act.put _ (some 18) _ = _
      simp only [Act.put, List.setIfInBounds_toArray, List.set_cons_zero, List.set_cons_succ, i64_w]
      rfl
     exact norm_ (by first | (simp only [putAll, Act.put, List.setIfInBounds_toArray, List.set_cons_zero, List.set_cons_succ]; done) | (simp only [putAll, Act.put, List.setIfInBounds_toArray, List.set_cons_zero, List.set_cons_succ]; rfl)) (hJ3_7_8_9 (gb175, gb176) _ ⟨hHeld, (bk _ gb169), (bk _ gb170), (bk _ gb175), (bk _ gb176), GW175.out, GE175.out, NB169_175.out, NB175_169.out, NB170_175.out, NB175_170.out, NB176_175.out, NB175_176.out, GW176.out, GE176.out, NB169_176.out, NB176_169.out, NB170_176.out, NB176_170.out, (bw w)⟩)
   ·
    skip
    rintro gb176 w16 ⟨hS_, h0_, h1_, h2_, h3_, h4_, h5_, h6_, h7_, h8_, h9_⟩
    have n0_ : Bk w16 gb169 (.cells #[.int .i64 a0_0, .int .i64 a0_1, .slice A0_2 l0_2.length c0_2] 24 (0, 0)) := ⟨h0_⟩
    have n1_ : Bk w16 gb170 (.cells #[.int .i64 0, .int .i64 0] 103 (0, 0)) := ⟨h1_⟩
    have n2_ : Bk w16 gb176 (.cells #[.int .i64 0, .int .i64 0] 103 (0, 0)) := ⟨h2_⟩
    have n3_ : Ge w gb176 := ⟨h3_⟩
    have n4_ : Ge w gb176 := ⟨h4_⟩
    have n5_ : Nb gb169 gb176 := ⟨h5_⟩
    have n6_ : Nb gb176 gb169 := ⟨h6_⟩
    have n7_ : Nb gb170 gb176 := ⟨h7_⟩
    have n8_ : Nb gb176 gb170 := ⟨h8_⟩
    have n9_ : Bw w w16 := ⟨h9_⟩
    clear BK169 BK170 HB h0_ h1_ h2_ h3_ h4_ h5_ h6_ h7_ h8_ h9_
    have BK169 := n0_
    have BK170 := n1_
    have BK176 := n2_
    have GW176 := n3_
    have GE176 := n4_
    have NB169_176 := n5_
    have NB176_169 := n6_
    have NB170_176 := n7_
    have NB176_170 := n8_
    have HB := n9_
    clear n0_ n1_ n2_ n3_ n4_ n5_ n6_ n7_ n8_ n9_
    have hHeld : w16.cell? ⟨gb169, 0, none⟩ = some (.int .i64 a0_0) ∧ w16.cell? ⟨gb169, 1, none⟩ = some (.int .i64 a0_1) ∧ w16.cell? ⟨gb169, 2, none⟩ = some (.slice A0_2 l0_2.length c0_2) := hS_
    refine norm_ (a' := ?_) ?_ ?_
    rotate_left
    ·
     simp only [putAll, Act.put, List.setIfInBounds_toArray, List.set_cons_zero, List.set_cons_succ]
     rfl
    refine one_ (i := 8) (N := some 9) #[true, true, true, true, true, true, true, true, true, true, false, false] rfl rfl (one_of HT_.out (by kernel_rfl)) (by decide) (fun K hK => ?_)
    refine box_step ?hg (N := 9) ?hd (cs := #[.int .i64 0, .int .i64 0]) (t := 103) ?hr ?_; (case hd => rfl); (case hg => rfl); (case hr => first | (go_simp; done) | (go_simp; rfl))
    intro gb175 hg w17 hbox hb
    have BK175 := Bk.mk (hbox)
    have GW175 := eB w hg
    have GE175 := eB w hg
    have NB169_175 := nB gb169 hg
    have NB175_169 := nB' gb169 hg
    have NB170_175 := nB gb170 hg
    have NB175_170 := nB' gb170 hg
    have NB176_175 := nB gb176 hg
    have NB175_176 := nB' gb176 hg
    replace BK169 := kB gb169 hb
    replace BK170 := kB gb170 hb
    replace BK176 := kB gb176 hb
    replace HB := bS w hb
    clear hb hbox hg
    refine hK.out _ _ ⟨bc BK169 0, bc BK169 1, bc BK169 2⟩ (fun hHeld => ?_)
    clear hK K
    refine norm_ (a' := ?_) ?_ ?_
    rotate_left
    ·
     show Act.put _ (some 9) _ = _
     simp only [Act.put, List.setIfInBounds_toArray, List.set_cons_zero, List.set_cons_succ, i64_w]
     rfl
    exact norm_ (by first | (simp only [putAll, Act.put, List.setIfInBounds_toArray, List.set_cons_zero, List.set_cons_succ]; done) | (simp only [putAll, Act.put, List.setIfInBounds_toArray, List.set_cons_zero, List.set_cons_succ]; rfl)) (hJ3_7_8_9 (gb175, gb176) _ ⟨hHeld, (bk _ gb169), (bk _ gb170), (bk _ gb175), (bk _ gb176), GW175.out, GE175.out, NB169_175.out, NB175_169.out, NB170_175.out, NB175_170.out, NB176_175.out, NB175_176.out, GW176.out, GE176.out, NB169_176.out, NB176_169.out, NB170_176.out, NB176_170.out, (bw w)⟩)
  ·
   skip
   rintro gb175 w16 ⟨hS_, h0_, h1_, h2_, h3_, h4_, h5_, h6_, h7_, h8_, h9_⟩
   have n0_ : Bk w16 gb169 (.cells #[.int .i64 a0_0, .int .i64 a0_1, .slice A0_2 l0_2.length c0_2] 24 (0, 0)) := ⟨h0_⟩
   have n1_ : Bk w16 gb170 (.cells #[.int .i64 0, .int .i64 0] 103 (0, 0)) := ⟨h1_⟩
   have n2_ : Bk w16 gb175 (.cells #[.int .i64 0, .int .i64 0] 103 (0, 0)) := ⟨h2_⟩
   have n3_ : Ge w gb175 := ⟨h3_⟩
   have n4_ : Ge w gb175 := ⟨h4_⟩
   have n5_ : Nb gb169 gb175 := ⟨h5_⟩
   have n6_ : Nb gb175 gb169 := ⟨h6_⟩
   have n7_ : Nb gb170 gb175 := ⟨h7_⟩
   have n8_ : Nb gb175 gb170 := ⟨h8_⟩
   have n9_ : Bw w w16 := ⟨h9_⟩
   clear BK169 BK170 HB h0_ h1_ h2_ h3_ h4_ h5_ h6_ h7_ h8_ h9_
   have BK169 := n0_
   have BK170 := n1_
   have BK175 := n2_
   have GW175 := n3_
   have GE175 := n4_
   have NB169_175 := n5_
   have NB175_169 := n6_
   have NB170_175 := n7_
   have NB175_170 := n8_
   have HB := n9_
   clear n0_ n1_ n2_ n3_ n4_ n5_ n6_ n7_ n8_ n9_
   have hHeld : w16.cell? ⟨gb169, 0, none⟩ = some (.int .i64 a0_0) ∧ w16.cell? ⟨gb169, 1, none⟩ = some (.int .i64 a0_1) ∧ w16.cell? ⟨gb169, 2, none⟩ = some (.slice A0_2 l0_2.length c0_2) := hS_
   refine norm_ (a' := ?_) ?_ ?_
   rotate_left
   ·
    simp only [putAll, Act.put, List.setIfInBounds_toArray, List.set_cons_zero, List.set_cons_succ]
    rfl
   refine one_ (i := 9) (N := some 10) #[true, true, true, true, true, true, true, true, true, true, false, false] rfl rfl (one_of HT_.out (by kernel_rfl)) (by decide) (fun K hK => ?_)
   refine box_step ?hg (N := 10) ?hd (cs := #[.int .i64 0, .int .i64 0]) (t := 103) ?hr ?_; (case hd => rfl); (case hg => rfl); (case hr => first | (go_simp; done) | (go_simp; rfl))
   intro gb176 hg w17 hbox hb
   have BK176 := Bk.mk (hbox)
   have GW176 := eB w hg
   have GE176 := eB w hg
   have NB169_176 := nB gb169 hg
   have NB176_169 := nB' gb169 hg
   have NB170_176 := nB gb170 hg
   have NB176_170 := nB' gb170 hg
   have NB175_176 := nB gb175 hg
   have NB176_175 := nB' gb175 hg
   replace BK169 := kB gb169 hb
   replace BK170 := kB gb170 hb
   replace BK175 := kB gb175 hb
   replace HB := bS w hb
   clear hb hbox hg
   refine hK.out _ _ ⟨bc BK169 0, bc BK169 1, bc BK169 2⟩ (fun hHeld => ?_)
   clear hK K
   refine norm_ (a' := ?_) ?_ ?_
   rotate_left
   ·
    show Act.put _ (some 10) _ = _
    simp only [Act.put, List.setIfInBounds_toArray, List.set_cons_zero, List.set_cons_succ, i64_w]
    rfl
   exact norm_ (by first | (simp only [putAll, Act.put, List.setIfInBounds_toArray, List.set_cons_zero, List.set_cons_succ]; done) | (simp only [putAll, Act.put, List.setIfInBounds_toArray, List.set_cons_zero, List.set_cons_succ]; rfl)) (hJ3_7_8_9 (gb175, gb176) _ ⟨hHeld, (bk _ gb169), (bk _ gb170), (bk _ gb175), (bk _ gb176), GW175.out, GE175.out, NB169_175.out, NB175_169.out, NB170_175.out, NB175_170.out, NB176_175.out, NB175_176.out, GW176.out, GE176.out, NB169_176.out, NB176_169.out, NB170_176.out, NB176_170.out, (bw w)⟩)
 rintro ⟨gb175, gb176⟩ w17 ⟨hS_, h0_, h1_, h2_, h3_, h4_, h5_, h6_, h7_, h8_, h9_, h10_, h11_, h12_, h13_, h14_, h15_, h16_, h17_, h18_⟩
 have n0_ : Bk w17 gb169 (.cells #[.int .i64 a0_0, .int .i64 a0_1, .slice A0_2 l0_2.length c0_2] 24 (0, 0)) := ⟨h0_⟩
 have n1_ : Bk w17 gb170 (.cells #[.int .i64 0, .int .i64 0] 103 (0, 0)) := ⟨h1_⟩
 have n2_ : Bk w17 gb175 (.cells #[.int .i64 0, .int .i64 0] 103 (0, 0)) := ⟨h2_⟩
 have n3_ : Bk w17 gb176 (.cells #[.int .i64 0, .int .i64 0] 103 (0, 0)) := ⟨h3_⟩
 have n4_ : Ge w gb175 := ⟨h4_⟩
 have n5_ : Ge w gb175 := ⟨h5_⟩
 have n6_ : Nb gb169 gb175 := ⟨h6_⟩
 have n7_ : Nb gb175 gb169 := ⟨h7_⟩
 have n8_ : Nb gb170 gb175 := ⟨h8_⟩
 have n9_ : Nb gb175 gb170 := ⟨h9_⟩
 have n10_ : Nb gb176 gb175 := ⟨h10_⟩
 have n11_ : Nb gb175 gb176 := ⟨h11_⟩
 have n12_ : Ge w gb176 := ⟨h12_⟩
 have n13_ : Ge w gb176 := ⟨h13_⟩
 have n14_ : Nb gb169 gb176 := ⟨h14_⟩
 have n15_ : Nb gb176 gb169 := ⟨h15_⟩
 have n16_ : Nb gb170 gb176 := ⟨h16_⟩
 have n17_ : Nb gb176 gb170 := ⟨h17_⟩
 have n18_ : Bw w w17 := ⟨h18_⟩
 clear BK169 BK170 HB h0_ h1_ h2_ h3_ h4_ h5_ h6_ h7_ h8_ h9_ h10_ h11_ h12_ h13_ h14_ h15_ h16_ h17_ h18_
 have BK169 := n0_
 have BK170 := n1_
 have BK175 := n2_
 have BK176 := n3_
 have GW175 := n4_
 have GE175 := n5_
 have NB169_175 := n6_
 have NB175_169 := n7_
 have NB170_175 := n8_
 have NB175_170 := n9_
 have NB176_175 := n10_
 have NB175_176 := n11_
 have GW176 := n12_
 have GE176 := n13_
 have NB169_176 := n14_
 have NB176_169 := n15_
 have NB170_176 := n16_
 have NB176_170 := n17_
 have HB := n18_
 clear n0_ n1_ n2_ n3_ n4_ n5_ n6_ n7_ n8_ n9_ n10_ n11_ n12_ n13_ n14_ n15_ n16_ n17_ n18_
 have hHeld : w17.cell? ⟨gb169, 0, none⟩ = some (.int .i64 a0_0) ∧ w17.cell? ⟨gb169, 1, none⟩ = some (.int .i64 a0_1) ∧ w17.cell? ⟨gb169, 2, none⟩ = some (.slice A0_2 l0_2.length c0_2) := hS_
 refine norm_ (a' := ?_) ?_ ?_
 rotate_left
 ·
  simp only [putAll, Act.put, List.setIfInBounds_toArray, List.set_cons_zero, List.set_cons_succ]
  rfl
 refine one_ (i := 10) (N := none) #[true, true, true, true, true, true, true, true, true, true, true, false] rfl rfl (one_of HT_.out (by kernel_rfl)) (by decide) (fun K hK => ?_)
 have hs18 : w17.cell? ⟨gb175, 0, none⟩ = some (.int .i64 0) := bc BK175 0
 have hfs18 := blk_frozen BK175.out 0
 have hns18_0 := NB169_175.out
 have hns18_1 := NB170_175.out
 have hns18_3 := NB176_175.out
 have hms18_0 := NB175_169.out
 have hms18_1 := NB175_170.out
 have hms18_3 := NB175_176.out
 have hs19 : w17.cell? ⟨gb175, 1, none⟩ = some (.int .i64 0) := bc BK175 1
 have hfs19 := blk_frozen BK175.out 1
 have hns19_0 := NB169_175.out
 have hns19_1 := NB170_175.out
 have hns19_3 := NB176_175.out
 have hms19_0 := NB175_169.out
 have hms19_1 := NB175_170.out
 have hms19_3 := NB175_176.out
 refine skip_ (w1 := ?_) (by rfl) rfl ?_ ?_
 rotate_left
 ·
  go_simp
  rfl
 refine hK.out _ _ ⟨((cell_far (p := ⟨gb175, _, none⟩) NB169_175.out _).trans (((cell_far (p := ⟨gb175, _, none⟩) NB169_175.out _).trans (hHeld.1)))), ((cell_far (p := ⟨gb175, _, none⟩) NB169_175.out _).trans (((cell_far (p := ⟨gb175, _, none⟩) NB169_175.out _).trans (hHeld.2.1)))), ((cell_far (p := ⟨gb175, _, none⟩) NB169_175.out _).trans (((cell_far (p := ⟨gb175, _, none⟩) NB169_175.out _).trans (hHeld.2.2))))⟩ (fun hHeld => ?_)
 clear hK K
 refine one_ (i := 11) (N := none) #[true, true, true, true, true, true, true, true, true, true, true, true] rfl rfl (one_of HT_.out (by kernel_rfl)) (by decide) (fun K hK => ?_)
 have hs20 : w17.cell? ⟨gb176, 0, none⟩ = some (.int .i64 0) := bc BK176 0
 have hfs20 := blk_frozen BK176.out 0
 have hns20_0 := NB169_176.out
 have hns20_1 := NB170_176.out
 have hns20_2 := NB175_176.out
 have hms20_0 := NB176_169.out
 have hms20_1 := NB176_170.out
 have hms20_2 := NB176_175.out
 have hs21 : w17.cell? ⟨gb176, 1, none⟩ = some (.int .i64 0) := bc BK176 1
 have hfs21 := blk_frozen BK176.out 1
 have hns21_0 := NB169_176.out
 have hns21_1 := NB170_176.out
 have hns21_2 := NB175_176.out
 have hms21_0 := NB176_169.out
 have hms21_1 := NB176_170.out
 have hms21_2 := NB176_175.out
 refine skip_ (w1 := ?_) (by rfl) rfl ?_ ?_
 rotate_left
 ·
  go_simp
  rfl
 refine hK.out _ _ ⟨((cell_far (p := ⟨gb176, _, none⟩) NB169_176.out _).trans (((cell_far (p := ⟨gb176, _, none⟩) NB169_176.out _).trans (hHeld.1)))), ((cell_far (p := ⟨gb176, _, none⟩) NB169_176.out _).trans (((cell_far (p := ⟨gb176, _, none⟩) NB169_176.out _).trans (hHeld.2.1)))), ((cell_far (p := ⟨gb176, _, none⟩) NB169_176.out _).trans (((cell_far (p := ⟨gb176, _, none⟩) NB169_176.out _).trans (hHeld.2.2))))⟩ (fun hHeld => ?_)
 clear hK K
 refine done_ (done_of HT_.out (by kernel_rfl)) ?_
 try go_wp2
 have n0_ : Bk ((((w17.setCell ⟨gb175, 0, none⟩ (.int .i64 t171)).setCell ⟨gb175, 1, none⟩ (.int .i64 t172)).setCell ⟨gb176, 0, none⟩ (.int .i64 t173)).setCell ⟨gb176, 1, none⟩ (.int .i64 t174)) gb169 (.cells #[.int .i64 a0_0, .int .i64 a0_1, .slice A0_2 l0_2.length c0_2] 24 (0, 0)) := ⟨bko gb169 (by rfl)⟩
 have n1_ : Bk ((((w17.setCell ⟨gb175, 0, none⟩ (.int .i64 t171)).setCell ⟨gb175, 1, none⟩ (.int .i64 t172)).setCell ⟨gb176, 0, none⟩ (.int .i64 t173)).setCell ⟨gb176, 1, none⟩ (.int .i64 t174)) gb170 (.cells #[.int .i64 0, .int .i64 0] 103 (0, 0)) := ⟨bko gb170 (by rfl)⟩
 have n2_ : Bk ((((w17.setCell ⟨gb175, 0, none⟩ (.int .i64 t171)).setCell ⟨gb175, 1, none⟩ (.int .i64 t172)).setCell ⟨gb176, 0, none⟩ (.int .i64 t173)).setCell ⟨gb176, 1, none⟩ (.int .i64 t174)) gb175 (.cells #[.int .i64 t171, .int .i64 t172] 103 (0, 0)) := ⟨bko gb175 (by rfl)⟩
 have n3_ : Bk ((((w17.setCell ⟨gb175, 0, none⟩ (.int .i64 t171)).setCell ⟨gb175, 1, none⟩ (.int .i64 t172)).setCell ⟨gb176, 0, none⟩ (.int .i64 t173)).setCell ⟨gb176, 1, none⟩ (.int .i64 t174)) gb176 (.cells #[.int .i64 t173, .int .i64 t174] 103 (0, 0)) := ⟨bko gb176 (by rfl)⟩
 have n4_ : Bw w ((((w17.setCell ⟨gb175, 0, none⟩ (.int .i64 t171)).setCell ⟨gb175, 1, none⟩ (.int .i64 t172)).setCell ⟨gb176, 0, none⟩ (.int .i64 t173)).setCell ⟨gb176, 1, none⟩ (.int .i64 t174)) := inferInstance
 (try clear BK169)
 (try clear BK170)
 (try clear BK175)
 (try clear BK176)
 (try clear HB)
 generalize ((((w17.setCell ⟨gb175, 0, none⟩ (.int .i64 t171)).setCell ⟨gb175, 1, none⟩ (.int .i64 t172)).setCell ⟨gb176, 0, none⟩ (.int .i64 t173)).setCell ⟨gb176, 1, none⟩ (.int .i64 t174)) = w22 at n0_ n1_ n2_ n3_ n4_ ⊢
 have BK169 := n0_
 have BK170 := n1_
 have BK175 := n2_
 have BK176 := n3_
 have HB := n4_
 clear n0_ n1_ n2_ n3_ n4_
 have n0_ := Bk.mk (blk_drew BK169.out)
 have n1_ := Bk.mk (blk_drew BK170.out)
 have n2_ := Bk.mk (blk_drew BK175.out)
 have n3_ := Bk.mk (blk_drew BK176.out)
 have n4_ := Bw.mk (below_drew1 HB.out)
 clear BK169 BK170 BK175 BK176 HB
 have BK169 := n0_
 have BK170 := n1_
 have BK175 := n2_
 have BK176 := n3_
 have HB := n4_
 clear n0_ n1_ n2_ n3_ n4_
 refine start_ (n := 21) (S := fun w' => w'.cell? ⟨gb176, 0, none⟩ = some (.int .i64 t173) ∧ w'.cell? ⟨gb176, 1, none⟩ = some (.int .i64 t174) ∧ w'.cell? ⟨gb175, 0, none⟩ = some (.int .i64 t171) ∧ w'.cell? ⟨gb175, 1, none⟩ = some (.int .i64 t172) ∧ w'.cell? ⟨gb169, 0, none⟩ = some (.int .i64 a0_0) ∧ w'.cell? ⟨gb169, 1, none⟩ = some (.int .i64 a0_1) ∧ w'.cell? ⟨gb169, 2, none⟩ = some (.slice A0_2 l0_2.length c0_2)) (ds := []) #[false, false, false, false, false, false, false, false, false, false, false, false, false, false, false, false, false, false, false, false, false] (by kernel_rfl) rfl rfl ⟨bc BK176 0, bc BK176 1, bc BK175 0, bc BK175 1, bc BK169 0, bc BK169 1, bc BK169 2⟩ (fun hHeld => ?_); refine with_tabW course_turn.tab2 course_turn.bits2 (fun HT_ HW_ => ?_)
 generalize w22.drew = w23 at BK169 BK170 BK175 BK176 HB hHeld ⊢
 refine pS 0 (some 19) rfl rfl (any_of HT_.out (by kernel_rfl)) (fun _ _ _ h => h) (by rfl) (fun w' => by go_simp; with_reducible rfl) (by simp only [Act.put, List.setIfInBounds_toArray, List.set_cons_zero, List.set_cons_succ, i64_w]; rfl) ?_
 refine pS 2 (some 21) rfl rfl (any_of HT_.out (by kernel_rfl)) (fun _ _ _ h => h) (by rfl) (fun w' => by go_simp; with_reducible rfl) (by simp only [Act.put, List.setIfInBounds_toArray, List.set_cons_zero, List.set_cons_succ, i64_w]; rfl) ?_
 refine pS 5 (some 24) rfl rfl (any_of HT_.out (by kernel_rfl)) (fun _ _ _ h => h) (by rfl) (fun w' => by go_simp; with_reducible rfl) (by simp only [Act.put, List.setIfInBounds_toArray, List.set_cons_zero, List.set_cons_succ, i64_w]; rfl) ?_
 refine pS 7 (some 26) rfl rfl (any_of HT_.out (by kernel_rfl)) (fun _ _ _ h => h) (by rfl) (fun w' => by go_simp; with_reducible rfl) (by simp only [Act.put, List.setIfInBounds_toArray, List.set_cons_zero, List.set_cons_succ, i64_w]; rfl) ?_
 refine pS 11 (some 30) rfl rfl (any_of HT_.out (by kernel_rfl)) (fun _ _ _ h => h) (by rfl) (fun w' => by go_simp; with_reducible rfl) (by simp only [Act.put, List.setIfInBounds_toArray, List.set_cons_zero, List.set_cons_succ, i64_w]; rfl) ?_
 refine pS 12 (some 31) rfl rfl (any_of HT_.out (by kernel_rfl)) (fun _ _ _ h => h) (by rfl) (fun w' => by go_simp; with_reducible rfl) (by simp only [Act.put, List.setIfInBounds_toArray, List.set_cons_zero, List.set_cons_succ, i64_w]; rfl) ?_
 refine pS 14 (some 33) rfl rfl (any_of HT_.out (by kernel_rfl)) (fun _ _ _ h => h) (by rfl) (fun w' => by go_simp; with_reducible rfl) (by simp only [Act.put, List.setIfInBounds_toArray, List.set_cons_zero, List.set_cons_succ, i64_w]; rfl) ?_
 refine pS 15 (some 34) rfl rfl (any_of HT_.out (by kernel_rfl)) (fun _ _ _ h => h) (by rfl) (fun w' => by go_simp; with_reducible rfl) (by simp only [Act.put, List.setIfInBounds_toArray, List.set_cons_zero, List.set_cons_succ, i64_w]; rfl) ?_
 refine tS 1 (some 20) rfl rfl (take_ofW HT_.out HW_.out (by kernel_rfl)) (fun _ _ _ h => h) (by rfl) (by rintro w' ⟨s0, s1, s2, s3, s4, s5, s6⟩; go_simp; with_reducible rfl) hHeld (by simp only [Act.put, List.setIfInBounds_toArray, List.set_cons_zero, List.set_cons_succ, i64_w]; rfl) ?_
 refine tS 3 (some 22) rfl rfl (take_ofW HT_.out HW_.out (by kernel_rfl)) (fun _ _ _ h => h) (by rfl) (by rintro w' ⟨s0, s1, s2, s3, s4, s5, s6⟩; go_simp; with_reducible rfl) hHeld (by simp only [Act.put, List.setIfInBounds_toArray, List.set_cons_zero, List.set_cons_succ, i64_w]; rfl) ?_
 refine pS 4 (some 23) rfl rfl (any_of HT_.out (by kernel_rfl)) (fun _ _ _ h => h) (by rfl) (fun w' => by go_simp; with_reducible rfl) (by simp only [Act.put, List.setIfInBounds_toArray, List.set_cons_zero, List.set_cons_succ, i64_w]; rfl) ?_
 refine tS 6 (some 25) rfl rfl (take_ofW HT_.out HW_.out (by kernel_rfl)) (fun _ _ _ h => h) (by rfl) (by rintro w' ⟨s0, s1, s2, s3, s4, s5, s6⟩; go_simp; with_reducible rfl) hHeld (by simp only [Act.put, List.setIfInBounds_toArray, List.set_cons_zero, List.set_cons_succ, i64_w]; rfl) ?_
 refine tS 8 (some 27) rfl rfl (take_ofW HT_.out HW_.out (by kernel_rfl)) (fun _ _ _ h => h) (by rfl) (by rintro w' ⟨s0, s1, s2, s3, s4, s5, s6⟩; go_simp; with_reducible rfl) hHeld (by simp only [Act.put, List.setIfInBounds_toArray, List.set_cons_zero, List.set_cons_succ, i64_w]; rfl) ?_
 refine pS 9 (some 28) rfl rfl (any_of HT_.out (by kernel_rfl)) (fun _ _ _ h => h) (by rfl) (fun w' => by go_simp; with_reducible rfl) (by simp only [Act.put, List.setIfInBounds_toArray, List.set_cons_zero, List.set_cons_succ, i64_w]; rfl) ?_
 refine pS 10 (some 29) rfl rfl (any_of HT_.out (by kernel_rfl)) (fun _ _ _ h => h) (by rfl) (fun w' => by go_simp; with_reducible rfl) (by simp only [Act.put, List.setIfInBounds_toArray, List.set_cons_zero, List.set_cons_succ, i64_w]; rfl) ?_
 refine tS 13 (some 32) rfl rfl (take_ofW HT_.out HW_.out (by kernel_rfl)) (fun _ _ _ h => h) (by rfl) (by rintro w' ⟨s0, s1, s2, s3, s4, s5, s6⟩; go_simp; with_reducible rfl) hHeld (by simp only [Act.put, List.setIfInBounds_toArray, List.set_cons_zero, List.set_cons_succ, i64_w]; rfl) ?_
 refine one_ (i := 16) (N := some 35) #[true, true, true, true, true, true, true, true, true, true, true, true, true, true, true, true, true, false, false, false, false] rfl rfl (one_of HT_.out (by kernel_rfl)) (by decide) (fun K hK => ?_)
 refine goesM Tryd.func101 (by kernel_rfl) rfl #[.int .i64 a1, .int .i64 a2] (by rfl) rfl rfl (by rfl) ?_
 with_reducible refine (course_apart.calls a1 a2 t177 _ A7.out).mono ?_
 rintro e w24 ⟨rfl, hb⟩
 refine ⟨_, rfl, ?_⟩
 replace BK169 := kB gb169 hb
 replace BK170 := kB gb170 hb
 replace BK175 := kB gb175 hb
 replace BK176 := kB gb176 hb
 replace HB := bS w hb
 (try clear hb)
 refine hK.out _ _ ⟨bc BK176 0, bc BK176 1, bc BK175 0, bc BK175 1, bc BK169 0, bc BK169 1, bc BK169 2⟩ (fun hHeld => ?_)
 clear hK K
 refine norm_ (a' := ?_) ?_ ?_
 rotate_left
 ·
  show Act.put _ (some 35) _ = _
  simp only [Act.put, List.setIfInBounds_toArray, List.set_cons_zero, List.set_cons_succ, i64_w]
  rfl
 refine pS 17 (some 36) rfl rfl (any_of HT_.out (by kernel_rfl)) (fun _ _ _ h => h) (by rfl) (fun w' => by go_simp; with_reducible rfl) (by simp only [Act.put, List.setIfInBounds_toArray, List.set_cons_zero, List.set_cons_succ, i64_w]; rfl) ?_
 refine one_ (i := 18) (N := some 37) #[true, true, true, true, true, true, true, true, true, true, true, true, true, true, true, true, true, true, true, false, false] rfl rfl (one_of HT_.out (by kernel_rfl)) (by decide) (fun K hK => ?_)
 refine goesM Tryd.func131 (by kernel_rfl) rfl #[.agg #[.int .i64 0, .int .i64 0], .int .i64 (wrap64 (a0_1 * t177))] (by rfl) rfl rfl (by rfl) ?_
 with_reducible refine (course_ends_wider.calls 0 0 (wrap64 (a0_1 * t177)) t178 t179 _ A8.out).mono ?_
 rintro e w25 ⟨rfl, hb⟩
 refine ⟨_, rfl, ?_⟩
 replace BK169 := kB gb169 hb
 replace BK170 := kB gb170 hb
 replace BK175 := kB gb175 hb
 replace BK176 := kB gb176 hb
 replace HB := bS w hb
 (try clear hb)
 refine hK.out _ _ ⟨bc BK176 0, bc BK176 1, bc BK175 0, bc BK175 1, bc BK169 0, bc BK169 1, bc BK169 2⟩ (fun hHeld => ?_)
 clear hK K
 refine norm_ (a' := ?_) ?_ ?_
 rotate_left
 ·
  show Act.put _ (some 37) _ = _
  simp only [Act.put, List.setIfInBounds_toArray, List.set_cons_zero, List.set_cons_succ, i64_w]
  rfl
 refine one_ (i := 19) (N := some 38) #[true, true, true, true, true, true, true, true, true, true, true, true, true, true, true, true, true, true, true, true, false] rfl rfl (one_of HT_.out (by kernel_rfl)) (by decide) (fun K hK => ?_)
 refine goesM Tryd.func130 (by kernel_rfl) rfl #[.agg #[.int .i64 (wrap64 (t173 - t172)), .int .i64 (wrap64 (t174 - t171))], .agg #[.int .i64 t178, .int .i64 t179]] (by rfl) rfl rfl (by rfl) ?_
 with_reducible refine (course_ends_meet.calls (wrap64 (t173 - t172)) (wrap64 (t174 - t171)) t178 t179 t180 t181 _ A9.out).mono ?_
 rintro e w26 ⟨rfl, hb⟩
 refine ⟨_, rfl, ?_⟩
 replace BK169 := kB gb169 hb
 replace BK170 := kB gb170 hb
 replace BK175 := kB gb175 hb
 replace BK176 := kB gb176 hb
 replace HB := bS w hb
 (try clear hb)
 refine hK.out _ _ ⟨bc BK176 0, bc BK176 1, bc BK175 0, bc BK175 1, bc BK169 0, bc BK169 1, bc BK169 2⟩ (fun hHeld => ?_)
 clear hK K
 refine norm_ (a' := ?_) ?_ ?_
 rotate_left
 ·
  show Act.put _ (some 38) _ = _
  simp only [Act.put, List.setIfInBounds_toArray, List.set_cons_zero, List.set_cons_succ, i64_w]
  rfl
 refine one_ (i := 20) (N := none) #[true, true, true, true, true, true, true, true, true, true, true, true, true, true, true, true, true, true, true, true, true] rfl rfl (one_of HT_.out (by kernel_rfl)) (by decide) (fun K hK => ?_)
 have hs27 : w26.cell? ⟨gb170, 0, none⟩ = some (.int .i64 0) := bc BK170 0
 have hfs27 := blk_frozen BK170.out 0
 have hns27_0 := NB169_170.out
 have hns27_2 := NB175_170.out
 have hns27_3 := NB176_170.out
 have hms27_0 := NB169_170.out.symm
 have hms27_2 := NB170_175.out
 have hms27_3 := NB170_176.out
 have hs28 : w26.cell? ⟨gb170, 1, none⟩ = some (.int .i64 0) := bc BK170 1
 have hfs28 := blk_frozen BK170.out 1
 have hns28_0 := NB169_170.out
 have hns28_2 := NB175_170.out
 have hns28_3 := NB176_170.out
 have hms28_0 := NB169_170.out.symm
 have hms28_2 := NB170_175.out
 have hms28_3 := NB170_176.out
 refine skip_ (w1 := ?_) (by rfl) rfl ?_ ?_
 rotate_left
 ·
  go_simp
  rfl
 refine hK.out _ _ ⟨((cell_far (p := ⟨gb170, _, none⟩) NB176_170.out _).trans (((cell_far (p := ⟨gb170, _, none⟩) NB176_170.out _).trans (hHeld.1)))), ((cell_far (p := ⟨gb170, _, none⟩) NB176_170.out _).trans (((cell_far (p := ⟨gb170, _, none⟩) NB176_170.out _).trans (hHeld.2.1)))), ((cell_far (p := ⟨gb170, _, none⟩) NB175_170.out _).trans (((cell_far (p := ⟨gb170, _, none⟩) NB175_170.out _).trans (hHeld.2.2.1)))), ((cell_far (p := ⟨gb170, _, none⟩) NB175_170.out _).trans (((cell_far (p := ⟨gb170, _, none⟩) NB175_170.out _).trans (hHeld.2.2.2.1)))), ((cell_far (p := ⟨gb170, _, none⟩) NB169_170.out _).trans (((cell_far (p := ⟨gb170, _, none⟩) NB169_170.out _).trans (hHeld.2.2.2.2.1)))), ((cell_far (p := ⟨gb170, _, none⟩) NB169_170.out _).trans (((cell_far (p := ⟨gb170, _, none⟩) NB169_170.out _).trans (hHeld.2.2.2.2.2.1)))), ((cell_far (p := ⟨gb170, _, none⟩) NB169_170.out _).trans (((cell_far (p := ⟨gb170, _, none⟩) NB169_170.out _).trans (hHeld.2.2.2.2.2.2))))⟩ (fun hHeld => ?_)
 clear hK K
 refine done_ (done_of HT_.out (by kernel_rfl)) ?_
 try go_wp2
 all_goals (refine bodyPost_ret (results_cell_row rfl _ _ gb170 103 #[.int .i64 t180, .int .i64 t181] (0, 0) _ rfl (bko gb170 (by rfl)) Tryd.underlying103 rfl (by kernel_rfl)) rfl ?_; exact ⟨by first | rfl | (simp [errW_none, errW_some] <;> rfl) | (simp [*, errW_none, errW_some] <;> rfl), bw w⟩)
def course_Turn.f (k : Nat) (a0_0 : Int) (a0_1 : Int) (l0_2 : List (S26)) (a1 : Int) (a2 : Int) (a3 : Int) : Option (Int × Int × Int) := (course_ask.f k a0_0 a0_1 l0_2 (([a1, a2, a3] : List Int))).bind fun t187 => (if t187 = 0 then ((course_turn.f k a0_0 a0_1 l0_2 a1 a2 a3).bind fun bt188 => (some (bt188.1, bt188.2, 0))) else (some (0, 0, t187)))
theorem course_Turn.mono : ∀ a0 a1 a2 a3 a4 a5 k, LeO (course_Turn.f k a0 a1 a2 a3 a4 a5) (course_Turn.f (k + 1) a0 a1 a2 a3 a4 a5) := by
 intro a0 a1 a2 a3 a4 a5 k
 unfold course_Turn.f
 repeat' first
   | (with_reducible exact course_ask.mono _ _ _ _ _)
   | (with_reducible exact course_turn.mono _ _ _ _ _ _ _)
   | (with_reducible exact LeO.refl _)
   | (with_reducible exact LeO.none _)
   | (with_reducible refine LeO.ite ?_ ?_)
   | (with_reducible refine LeO.bind ?_ (fun _ => ?_))
   | exact course_ask.mono _ _ _ _ _
   | exact course_turn.mono _ _ _ _ _ _ _
   | exact LeO.none _
   | refine LeO.ite ?_ ?_
   | refine LeO.bind ?_ (fun _ => ?_)
set_option maxHeartbeats 8000000 in
set_option maxRecDepth 100000 in
theorem course_Turn.calls (k : Nat) (a0_0 : Int) (a0_1 : Int) (A0_2 : Option Addr) (c0_2 : Nat) (l0_2 : List (S26)) (a1 : Int) (a2 : Int) (a3 : Int) (r1 : Int) (r2 : Int) (r3 : Int) (w : World) (hr0_2 : Kd.C k26 w A0_2 l0_2.length l0_2) (hc0_2 : l0_2.length ≤ c0_2) (h : course_Turn.f k a0_0 a0_1 l0_2 a1 a2 a3 = some (r1, r2, r3)) :
  Calls Tryd.prog 25 #[.agg #[.int .i64 a0_0, .int .i64 a0_1, .slice A0_2 l0_2.length c0_2], .int .i64 a1, .int .i64 a2, .int .i64 a3] w fun e w' => e = .returned (.tuple #[.agg #[.int .i64 r1, .int .i64 r2], .int .i64 r3]) ∧ Below w.heap.size w w' := by
 have hu24 := Tryd.underlying24
 have hu40 := Tryd.underlying40
 have hu103 := Tryd.underlying103
 have HR0_2 := Aside0.mk (hr0_2)
 have HC0_2 := Aside0.mk (hc0_2)
 clear hr0_2 hc0_2
 have HB := Bw.mk (Below.refl w.heap.size w)
 have H : ((course_ask.f k a0_0 a0_1 l0_2 (([a1, a2, a3] : List Int))).bind fun t187 => (if t187 = 0 then ((course_turn.f k a0_0 a0_1 l0_2 a1 a2 a3).bind fun bt188 => (some (bt188.1, bt188.2, 0))) else (some (0, 0, t187)))) = some (r1, r2, r3) := h
 clear h
 obtain ⟨y184, hy184⟩ : ∃ y_ : List Int, y_ = (([a1, a2, a3] : List Int)) := ⟨_, rfl⟩
 replace H : ((course_ask.f k a0_0 a0_1 l0_2 y184).bind fun t187 => (if t187 = 0 then ((course_turn.f k a0_0 a0_1 l0_2 a1 a2 a3).bind fun bt188 => (some (bt188.1, bt188.2, 0))) else (some (0, 0, t187)))) = some (r1, r2, r3) := by first | (rw [hy184]; with_reducible exact H) | (have H2_ := (Option.bind_some _ _).symm.trans H; rw [hy184]; with_reducible exact H2_) | (have H2_ := (Option.bind_some _ _).symm.trans H; with_reducible exact H2_) | with_reducible exact H | (rw [hy184]; exact H) | exact H
 have Ny184 := Aside0.mk (hy184)
 clear hy184
 replace H := Option.bind_eq_some_iff.mp H
 obtain ⟨t187, A50, H⟩ := H
 have A5 := Aside0.mk (A50)
 clear A50
 by_cases c6 : t187 = 0
 ·
  rw [if_pos c6] at H
  have c6b0 : (t187 == 0) = true := beq_iff_eq.mpr c6
  have c6b1 : (t187 != 0) = false := bne_eq_false_iff_eq.mpr c6
  clear c6
  replace H := Option.bind_eq_some_iff.mp H
  obtain ⟨⟨t188, t189⟩, A70, H⟩ := H
  have A7 := Aside0.mk (A70)
  clear A70
  simp only [Option.some.injEq, Prod.mk.injEq] at H
  obtain ⟨rfl, rfl, rfl⟩ := H
  go_enter Tryd.func25, Tryd.ntmps25
  go_wp2_with (first | ((with_reducible refine gate_dst (N := 4) rfl ?_); refine bxE 4 24 #[.int .i64 a0_0, .int .i64 a0_1, .slice A0_2 l0_2.length c0_2] (by rfl) (by rfl) (by first | (go_simp; done) | (go_simp; rfl)) ?_; intro gb182 hg w8 hbox hb; have BK182 := Bk.mk (hbox); have GE182 := eB w hg; replace HB := bS w hb; clear hb hbox hg) | ((with_reducible refine gate_dst (N := 8) rfl ?_); refine bxE 8 40 #[.int .i64 0, .int .i64 0] (by rfl) (by rfl) (by first | (go_simp; done) | (go_simp; rfl)) ?_; intro gb183 hg w9 hbox hb; have BK183 := Bk.mk (hbox); have GE183 := eB w hg; have NB182_183 := nB gb182 hg; replace BK182 := kB gb182 hb; replace HB := bS w hb; clear hb hbox hg; obtain ⟨hnb10, hnc10⟩ := nn NB182_183; obtain ⟨hcz11_0, hcz11_1, hcz11_2, hfz11_0, hfz11_1, hfz11_2⟩ := cz3 BK182) | ((with_reducible refine gate_dst (N := 16) rfl ?_); refine Kd.R_lit (Kd.int .i64) _ 3 ?hg (N := 16) ?hd (xs := ([a1, a2, a3] : List Int)) (inner := [.int .i64 a1, .int .i64 a2, .int .i64 a3]) (ok := fun _ => True) (okp := fun _ => True) ?hr ?hp (fun _ hk => hk) trivial (Below.refl _ _) (Nat.le_refl _) (by simp) ?_; (case hd => rfl); (case hg => rfl); (case hr => first | (go_simp; done) | (go_simp; rfl)); (case hp => exact (Reps.one (show Kd.M (Kd.int .i64) _ _ _ a1 [.int .i64 a1] from rfl) (Reps.one (show Kd.M (Kd.int .i64) _ _ _ a2 [.int .i64 a2] from rfl) (Reps.one (show Kd.M (Kd.int .i64) _ _ _ a3 [.int .i64 a3] from rfl) (Reps.none _ _))))); intro v185 w12 ho13 hb hg_ hnew_; clear hg_ hnew_; (first | rw [← Ny184.out] at ho13 | (simp only [Int.reduceToNat] at ho13; rw [← Ny184.out] at ho13)); have n0_ := Aside0.mk (Kd.R_lower ho13 (bz w)); replace BK182 := kB gb182 hb; replace BK183 := kB gb183 hb; replace HB := bS w hb; have HO186 := n0_; clear n0_ hb ho13; obtain ⟨Ao14, co14, eo14⟩ := Kd.R_slice HO186.out; subst eo14) | ((with_reducible refine gate_callee (f := 76) rfl ?_); refine goesLM (some 17) rfl rfl Tryd.func76 (by kernel_rfl) rfl #[.agg #[.int .i64 a0_0, .int .i64 a0_1, .slice A0_2 l0_2.length c0_2], .slice Ao14 y184.length co14] rfl (by rfl) ?_; (with_reducible refine (course_ask.calls k a0_0 a0_1 _ _ l0_2 _ _ y184 t187 _ ?side1 ?side2 ?side3 ?side4 A5.out).mono ?_); (case side1 => exact cP (Kd.C_below HR0_2.out HB.out)); (case side2 => exact HC0_2.out); (case side3 => exact cP (Kd.R_reads' HO186.out).2.2); (case side4 => exact (Kd.R_reads' HO186.out).2.1); rintro e w15 ⟨rfl, hb⟩; refine ⟨_, rfl, ?_⟩; replace HO186 := rB HO186 hb; replace BK182 := kB gb182 hb; replace BK183 := kB gb183 hb; replace HB := bS w hb; (try clear hb); obtain ⟨hcz16_0, hcz16_1, hcz16_2, hfz16_0, hfz16_1, hfz16_2⟩ := cz3 BK182) | ((with_reducible refine gate_callee (f := 79) rfl ?_); refine goesLM (some 26) rfl rfl Tryd.func79 (by kernel_rfl) rfl #[.agg #[.int .i64 a0_0, .int .i64 a0_1, .slice A0_2 l0_2.length c0_2], .int .i64 a1, .int .i64 a2, .int .i64 a3] rfl (by rfl) ?_; (with_reducible refine (course_turn.calls k a0_0 a0_1 _ _ l0_2 a1 a2 a3 t188 t189 _ ?side1 ?side2 A7.out).mono ?_); (case side1 => exact cP (Kd.C_below HR0_2.out HB.out)); (case side2 => exact HC0_2.out); rintro e w17 ⟨rfl, hb⟩; refine ⟨_, rfl, ?_⟩; replace HO186 := rB HO186 hb; replace BK182 := kB gb182 hb; replace BK183 := kB gb183 hb; replace HB := bS w hb; (try clear hb)) | ((with_reducible refine gate_dst (N := 11) rfl ?_); refine bxE 11 103 #[.int .i64 0, .int .i64 0] (by rfl) (by rfl) (by first | (go_simp; done) | (go_simp; rfl)) ?_; intro gb190 hg w18 hbox hb; have BK190 := Bk.mk (hbox); have GE190 := eB w hg; have NB182_190 := nB gb182 hg; have NB183_190 := nB gb183 hg; replace HO186 := rB HO186 hb; replace BK182 := kB gb182 hb; replace BK183 := kB gb183 hb; replace HB := bS w hb; clear hb hbox hg; obtain ⟨hnc19, hnb19⟩ := nn NB182_190; obtain ⟨hnc20, hnb20⟩ := nn NB183_190; obtain ⟨hcz21_0, hcz21_1, hfz21_0, hfz21_1⟩ := cz2 BK190; obtain ⟨hcz22_0, hcz22_1, hfz22_0, hfz22_1⟩ := cz2 BK183))
  all_goals (refine bodyPost_ret (results_ct rfl _ _ gb183 40 #[.int .i64 t188, .int .i64 t189] (0, 0) _ rfl (bko gb183 (by rfl)) Tryd.underlying40 rfl (by kernel_rfl)) rfl ?_; exact ⟨by first | rfl | (simp [errW_none, errW_some] <;> rfl) | (simp [*, errW_none, errW_some] <;> rfl), bw w⟩)
 ·
  rw [if_neg c6] at H
  have c6b0 : (t187 == 0) = false := beq_eq_false_iff_ne.mpr c6
  have c6b1 : (t187 != 0) = true := bne_iff_ne.mpr c6
  simp only [Option.some.injEq, Prod.mk.injEq] at H
  obtain ⟨rfl, rfl, rfl⟩ := H
  go_enter Tryd.func25, Tryd.ntmps25
  go_wp2_with (first | ((with_reducible refine gate_dst (N := 4) rfl ?_); refine bxE 4 24 #[.int .i64 a0_0, .int .i64 a0_1, .slice A0_2 l0_2.length c0_2] (by rfl) (by rfl) (by first | (go_simp; done) | (go_simp; rfl)) ?_; intro gb182 hg w23 hbox hb; have BK182 := Bk.mk (hbox); have GE182 := eB w hg; replace HB := bS w hb; clear hb hbox hg) | ((with_reducible refine gate_dst (N := 8) rfl ?_); refine bxE 8 40 #[.int .i64 0, .int .i64 0] (by rfl) (by rfl) (by first | (go_simp; done) | (go_simp; rfl)) ?_; intro gb183 hg w24 hbox hb; have BK183 := Bk.mk (hbox); have GE183 := eB w hg; have NB182_183 := nB gb182 hg; replace BK182 := kB gb182 hb; replace HB := bS w hb; clear hb hbox hg; obtain ⟨hnb25, hnc25⟩ := nn NB182_183; obtain ⟨hcz26_0, hcz26_1, hcz26_2, hfz26_0, hfz26_1, hfz26_2⟩ := cz3 BK182) | ((with_reducible refine gate_dst (N := 16) rfl ?_); refine Kd.R_lit (Kd.int .i64) _ 3 ?hg (N := 16) ?hd (xs := ([a1, a2, a3] : List Int)) (inner := [.int .i64 a1, .int .i64 a2, .int .i64 a3]) (ok := fun _ => True) (okp := fun _ => True) ?hr ?hp (fun _ hk => hk) trivial (Below.refl _ _) (Nat.le_refl _) (by simp) ?_; (case hd => rfl); (case hg => rfl); (case hr => first | (go_simp; done) | (go_simp; rfl)); (case hp => exact (Reps.one (show Kd.M (Kd.int .i64) _ _ _ a1 [.int .i64 a1] from rfl) (Reps.one (show Kd.M (Kd.int .i64) _ _ _ a2 [.int .i64 a2] from rfl) (Reps.one (show Kd.M (Kd.int .i64) _ _ _ a3 [.int .i64 a3] from rfl) (Reps.none _ _))))); intro v185 w27 ho28 hb hg_ hnew_; clear hg_ hnew_; (first | rw [← Ny184.out] at ho28 | (simp only [Int.reduceToNat] at ho28; rw [← Ny184.out] at ho28)); have n0_ := Aside0.mk (Kd.R_lower ho28 (bz w)); replace BK182 := kB gb182 hb; replace BK183 := kB gb183 hb; replace HB := bS w hb; have HO186 := n0_; clear n0_ hb ho28; obtain ⟨Ao29, co29, eo29⟩ := Kd.R_slice HO186.out; subst eo29) | ((with_reducible refine gate_callee (f := 76) rfl ?_); refine goesLM (some 17) rfl rfl Tryd.func76 (by kernel_rfl) rfl #[.agg #[.int .i64 a0_0, .int .i64 a0_1, .slice A0_2 l0_2.length c0_2], .slice Ao29 y184.length co29] rfl (by rfl) ?_; (with_reducible refine (course_ask.calls k a0_0 a0_1 _ _ l0_2 _ _ y184 t187 _ ?side1 ?side2 ?side3 ?side4 A5.out).mono ?_); (case side1 => exact cP (Kd.C_below HR0_2.out HB.out)); (case side2 => exact HC0_2.out); (case side3 => exact cP (Kd.R_reads' HO186.out).2.2); (case side4 => exact (Kd.R_reads' HO186.out).2.1); rintro e w30 ⟨rfl, hb⟩; refine ⟨_, rfl, ?_⟩; replace HO186 := rB HO186 hb; replace BK182 := kB gb182 hb; replace BK183 := kB gb183 hb; replace HB := bS w hb; (try clear hb); obtain ⟨hcz31_0, hcz31_1, hfz31_0, hfz31_1⟩ := cz2 BK183))
  all_goals (refine bodyPost_ret (results_ct rfl _ _ gb183 40 #[.int .i64 0, .int .i64 0] (0, 0) _ rfl (bko gb183 (by rfl)) Tryd.underlying40 rfl (by kernel_rfl)) rfl ?_; exact ⟨by first | rfl | (simp [errW_none, errW_some] <;> rfl) | (simp [*, errW_none, errW_some] <;> rfl), bw w⟩)
def snowlineref01_drift.l0 : Nat → Int → Int → Int → Int → Int → List (S26) → Int → Int → Option (Int × Int)
 | 0, _, _, _, _, _, _, _, _ => none
 | k + 1, x1, x2, x8, x541000, x541001, x541002, x543000, x543001 => if x8 < (x541002.length : Int) then (if 0 ≤ x8 then (if ((rd_T26 x541002 x8).f1) > x2 then (snowlineref01_drift.l0 k x1 x2 (wrap64 (x8 + 1)) x541000 x541001 x541002 x543000 x543001) else ((snowlineref01_far.f ((rd_T26 x541002 x8).f0) x1).bind fun t545 => (snowlineref01_drift.l0 k x1 x2 (wrap64 (x8 + 1)) x541000 x541001 x541002 (mx x543000 (wrap64 (((rd_T26 x541002 x8).f2) - (wrap64 (x541001 * t545))))) (mn x543001 (wrap64 (((rd_T26 x541002 x8).f3) + (wrap64 (x541001 * t545)))))))) else (none)) else (some (x543000, x543001))
def snowlineref01_drift.f (k : Nat) (a0_0 : Int) (a0_1 : Int) (l0_2 : List (S26)) (a1 : Int) (a2 : Int) : Option (Int × Int) := snowlineref01_drift.l0 k a1 a2 0 a0_0 a0_1 l0_2 (-1048576) 1048576
set_option maxHeartbeats 8000000 in
set_option maxRecDepth 100000 in
theorem snowlineref01_drift.calls (k : Nat) (a0_0 : Int) (a0_1 : Int) (A0_2 : Option Addr) (c0_2 : Nat) (l0_2 : List (S26)) (a1 : Int) (a2 : Int) (r1 : Int) (r2 : Int) (w : World) (hr0_2 : Kd.C k26 w A0_2 l0_2.length l0_2) (hc0_2 : l0_2.length ≤ c0_2) (h : snowlineref01_drift.f k a0_0 a0_1 l0_2 a1 a2 = some (r1, r2)) :
  Calls Tryd.prog 78 #[.agg #[.int .i64 a0_0, .int .i64 a0_1, .slice A0_2 l0_2.length c0_2], .int .i64 a1, .int .i64 a2] w fun e w' => e = .returned (.agg #[.int .i64 r1, .int .i64 r2]) ∧ Below w.heap.size w w' := by
 have hu24 := Tryd.underlying24
 have hu40 := Tryd.underlying40
 have hu26 := Tryd.underlying26
 have HR0_2 := Aside0.mk (hr0_2)
 have HC0_2 := Aside0.mk (hc0_2)
 clear hr0_2 hc0_2
 have HB := Bw.mk (Below.refl w.heap.size w)
 have H : (snowlineref01_drift.l0 k a1 a2 0 a0_0 a0_1 l0_2 (-1048576) 1048576) = some (r1, r2) := h
 clear h
 have H' := Aside0.mk H
 clear H
 go_enter Tryd.func78, Tryd.ntmps78
 go_wp2_with (first | ((with_reducible refine gate_dst (N := 3) rfl ?_); refine bxE 3 24 #[.int .i64 a0_0, .int .i64 a0_1, .slice A0_2 l0_2.length c0_2] (by rfl) (by rfl) (by first | (go_simp; done) | (go_simp; rfl)) ?_; intro gb540 hg w4 hbox hb; have BK540 := Bk.mk (hbox); have GE540 := eB w hg; replace HB := bS w hb; clear hb hbox hg) | ((with_reducible refine gate_dst (N := 6) rfl ?_); refine bxE 6 40 #[.int .i64 0, .int .i64 0] (by rfl) (by rfl) (by first | (go_simp; done) | (go_simp; rfl)) ?_; intro gb541 hg w5 hbox hb; have BK541 := Bk.mk (hbox); have GE541 := eB w hg; have NB540_541 := nB gb540 hg; replace BK540 := kB gb540 hb; replace HB := bS w hb; clear hb hbox hg) | ((with_reducible refine gate_dst (N := 7) rfl ?_); refine bxE 7 40 #[.int .i64 0, .int .i64 0] (by rfl) (by rfl) (by first | (go_simp; done) | (go_simp; rfl)) ?_; intro gb542 hg w6 hbox hb; have BK542 := Bk.mk (hbox); have GE542 := eB w hg; have NB540_542 := nB gb540 hg; have NB541_542 := nB gb541 hg; replace BK540 := kB gb540 hb; replace BK541 := kB gb541 hb; replace HB := bS w hb; clear hb hbox hg; obtain ⟨hnc7, hnb7⟩ := nn NB540_542; obtain ⟨hnc8, hnb8⟩ := nn NB541_542; obtain ⟨hcz9_0, hcz9_1, hfz9_0, hfz9_1⟩ := cz2 BK542))
 repeat (go_quiet (first | ((with_reducible refine gate_dst (N := 3) rfl ?_); refine bxE 3 24 #[.int .i64 a0_0, .int .i64 a0_1, .slice A0_2 l0_2.length c0_2] (by rfl) (by rfl) (by first | (go_simp; done) | (go_simp; rfl)) ?_; intro gb540 hg w4 hbox hb; have BK540 := Bk.mk (hbox); have GE540 := eB w hg; replace HB := bS w hb; clear hb hbox hg) | ((with_reducible refine gate_dst (N := 6) rfl ?_); refine bxE 6 40 #[.int .i64 0, .int .i64 0] (by rfl) (by rfl) (by first | (go_simp; done) | (go_simp; rfl)) ?_; intro gb541 hg w5 hbox hb; have BK541 := Bk.mk (hbox); have GE541 := eB w hg; have NB540_541 := nB gb540 hg; replace BK540 := kB gb540 hb; replace HB := bS w hb; clear hb hbox hg) | ((with_reducible refine gate_dst (N := 7) rfl ?_); refine bxE 7 40 #[.int .i64 0, .int .i64 0] (by rfl) (by rfl) (by first | (go_simp; done) | (go_simp; rfl)) ?_; intro gb542 hg w6 hbox hb; have BK542 := Bk.mk (hbox); have GE542 := eB w hg; have NB540_542 := nB gb540 hg; have NB541_542 := nB gb541 hg; replace BK540 := kB gb540 hb; replace BK541 := kB gb541 hb; replace HB := bS w hb; clear hb hbox hg; obtain ⟨hnc7, hnb7⟩ := nn NB540_542; obtain ⟨hnc8, hnb8⟩ := nn NB541_542; obtain ⟨hcz9_0, hcz9_1, hfz9_0, hfz9_1⟩ := cz2 BK542)); try go_wp2_with (first | ((with_reducible refine gate_dst (N := 3) rfl ?_); refine bxE 3 24 #[.int .i64 a0_0, .int .i64 a0_1, .slice A0_2 l0_2.length c0_2] (by rfl) (by rfl) (by first | (go_simp; done) | (go_simp; rfl)) ?_; intro gb540 hg w4 hbox hb; have BK540 := Bk.mk (hbox); have GE540 := eB w hg; replace HB := bS w hb; clear hb hbox hg) | ((with_reducible refine gate_dst (N := 6) rfl ?_); refine bxE 6 40 #[.int .i64 0, .int .i64 0] (by rfl) (by rfl) (by first | (go_simp; done) | (go_simp; rfl)) ?_; intro gb541 hg w5 hbox hb; have BK541 := Bk.mk (hbox); have GE541 := eB w hg; have NB540_541 := nB gb540 hg; replace BK540 := kB gb540 hb; replace HB := bS w hb; clear hb hbox hg) | ((with_reducible refine gate_dst (N := 7) rfl ?_); refine bxE 7 40 #[.int .i64 0, .int .i64 0] (by rfl) (by rfl) (by first | (go_simp; done) | (go_simp; rfl)) ?_; intro gb542 hg w6 hbox hb; have BK542 := Bk.mk (hbox); have GE542 := eB w hg; have NB540_542 := nB gb540 hg; have NB541_542 := nB gb541 hg; replace BK540 := kB gb540 hb; replace BK541 := kB gb541 hb; replace HB := bS w hb; clear hb hbox hg; obtain ⟨hnc7, hnb7⟩ := nn NB540_542; obtain ⟨hnc8, hnb8⟩ := nn NB541_542; obtain ⟨hcz9_0, hcz9_1, hfz9_0, hfz9_1⟩ := cz2 BK542)))
 go_loopg [8] k (fun kq v8 w' => ∃ (x8_1 : Int) (x543000_1 : Int) (x543001_1 : Int), v8 = .int .i64 x8_1 ∧ Aside0 (snowlineref01_drift.l0 kq a1 a2 x8_1 a0_0 a0_1 l0_2 x543000_1 x543001_1 = some (r1, r2)) ∧ Aside0 (kq ≤ k) ∧ Bk w' gb540 (.cells #[.int .i64 a0_0, .int .i64 a0_1, (.slice A0_2 l0_2.length c0_2)] 24 (0, 0)) ∧ Bk w' gb541 (.cells #[.int .i64 0, .int .i64 0] 40 (0, 0)) ∧ Bk w' gb542 (.cells #[.int .i64 x543000_1, .int .i64 x543001_1] 40 (0, 0)) ∧ Bw w w')
 case atStart => exact ⟨(0), ((-1048576)), (1048576), (by first | rfl | (simp; done) | (simp [*]; done)), H', ⟨Nat.le_refl _⟩, ⟨bko gb540 (by rfl)⟩, ⟨bko gb541 (by rfl)⟩, ⟨bko gb542 (by rfl)⟩, inferInstance⟩
 case round =>
  clear H'
  try clear p2
  try clear c7
  try clear c8
  obtain ⟨x8_1, x543000_1, x543001_1, rfl, HA, HK1, BK540, BK541, BK542, HB⟩ := hrel
  cases gk with
  | zero => exact absurd HA.out (by simp [snowlineref01_drift.l0])
  | succ k1 =>
   have H := HA.out
   clear HA
   simp only [snowlineref01_drift.l0] at H
   by_cases c10 : x8_1 < (l0_2.length : Int)
   ·
    rw [if_pos c10] at H
    have c10b0 : decide (x8_1 < (l0_2.length : Int)) = true := decide_eq_true c10
    clear c10
    by_cases c11 : 0 ≤ x8_1
    ·
     rw [if_pos c11] at H
     have c11b0 : decide (0 ≤ x8_1) = true := decide_eq_true c11
     clear c11
     by_cases c12 : ((rd_T26 l0_2 x8_1).f1) > a2
     ·
      rw [if_pos c12] at H
      have c12b0 : decide (a2 < ((rd_T26 l0_2 x8_1).f1)) = true := decide_eq_true c12
      clear c12
      have H' := Aside0.mk H
      clear H
      obtain ⟨hnb13, hnc13⟩ := nn NB540_541
      obtain ⟨hnb14, hnc14⟩ := nn NB540_542
      obtain ⟨hcz15_0, hcz15_1, hcz15_2, hfz15_0, hfz15_1, hfz15_2⟩ := cz3 BK540
      have p543 : 0 ≤ (x8_1 : Int) := of_decide_eq_true (by first | (with_reducible assumption) | assumption)
      have q543 : x8_1 < (l0_2.length : Int) := of_decide_eq_true (by first | (with_reducible assumption) | assumption)
      obtain ⟨ad543, e543, hx543_0, hx543_1, hx543_2, hx543_3⟩ := at_T26 HR0_2.out x8_1 p543 q543
      cases e543
      replace hx543_0 := cB HB hx543_0
      replace hx543_1 := cB HB hx543_1
      replace hx543_2 := cB HB hx543_2
      replace hx543_3 := cB HB hx543_3
      replace p543 := eq_true p543
      replace q543 := eq_true q543
      go_wp2_with (first | ((with_reducible refine gate_dst (N := 9) rfl ?_); refine bxE 9 26 #[.int .i64 0, .int .i64 0, .int .i64 0, .int .i64 0] (by rfl) (by rfl) (by first | (go_simp; done) | (go_simp; rfl)) ?_; intro gb544 hg w16 hbox hb; have BK544 := Bk.mk (hbox); have GE544 := eB w hg; have NB540_544 := nB gb540 hg; have NB541_544 := nB gb541 hg; have NB542_544 := nB gb542 hg; replace BK540 := kB gb540 hb; replace BK541 := kB gb541 hb; replace BK542 := kB gb542 hb; replace HB := bS w hb; clear hb hbox hg; obtain ⟨hnc17, hnb17⟩ := nn NB540_544; obtain ⟨hnc18, hnb18⟩ := nn NB541_544; obtain ⟨hnc19, hnb19⟩ := nn NB542_544; obtain ⟨hcz20_0, hcz20_1, hcz20_2, hcz20_3, hfz20_0, hfz20_1, hfz20_2, hfz20_3⟩ := cz4 BK544))
      repeat (go_quiet (first | ((with_reducible refine gate_dst (N := 9) rfl ?_); refine bxE 9 26 #[.int .i64 0, .int .i64 0, .int .i64 0, .int .i64 0] (by rfl) (by rfl) (by first | (go_simp; done) | (go_simp; rfl)) ?_; intro gb544 hg w16 hbox hb; have BK544 := Bk.mk (hbox); have GE544 := eB w hg; have NB540_544 := nB gb540 hg; have NB541_544 := nB gb541 hg; have NB542_544 := nB gb542 hg; replace BK540 := kB gb540 hb; replace BK541 := kB gb541 hb; replace BK542 := kB gb542 hb; replace HB := bS w hb; clear hb hbox hg; obtain ⟨hnc17, hnb17⟩ := nn NB540_544; obtain ⟨hnc18, hnb18⟩ := nn NB541_544; obtain ⟨hnc19, hnb19⟩ := nn NB542_544; obtain ⟨hcz20_0, hcz20_1, hcz20_2, hcz20_3, hfz20_0, hfz20_1, hfz20_2, hfz20_3⟩ := cz4 BK544)); try go_wp2_with (first | ((with_reducible refine gate_dst (N := 9) rfl ?_); refine bxE 9 26 #[.int .i64 0, .int .i64 0, .int .i64 0, .int .i64 0] (by rfl) (by rfl) (by first | (go_simp; done) | (go_simp; rfl)) ?_; intro gb544 hg w16 hbox hb; have BK544 := Bk.mk (hbox); have GE544 := eB w hg; have NB540_544 := nB gb540 hg; have NB541_544 := nB gb541 hg; have NB542_544 := nB gb542 hg; replace BK540 := kB gb540 hb; replace BK541 := kB gb541 hb; replace BK542 := kB gb542 hb; replace HB := bS w hb; clear hb hbox hg; obtain ⟨hnc17, hnb17⟩ := nn NB540_544; obtain ⟨hnc18, hnb18⟩ := nn NB541_544; obtain ⟨hnc19, hnb19⟩ := nn NB542_544; obtain ⟨hcz20_0, hcz20_1, hcz20_2, hcz20_3, hfz20_0, hfz20_1, hfz20_2, hfz20_3⟩ := cz4 BK544)))
      go_roundg k1
      case measure => have := HK1.out; omega
      case rel => exact ⟨(wrap64 (x8_1 + 1)), (x543000_1), (x543001_1), (by first | rfl | (simp; done) | (simp [*]; done)), H', ⟨by have := HK1.out; omega⟩, ⟨bko gb540 (by rfl)⟩, ⟨bko gb541 (by rfl)⟩, ⟨bko gb542 (by rfl)⟩, inferInstance⟩
     ·
      rw [if_neg c12] at H
      have c12b0 : decide (a2 < ((rd_T26 l0_2 x8_1).f1)) = false := decide_eq_false c12
      clear c12
      replace H := Option.bind_eq_some_iff.mp H
      obtain ⟨t545, A210, H⟩ := H
      have A21 := Aside0.mk (A210)
      clear A210
      obtain ⟨ji22, hji22⟩ : ∃ j_ : Int, (mx x543000_1 (wrap64 (((rd_T26 l0_2 x8_1).f2) - (wrap64 (a0_1 * t545))))) = j_ := ⟨_, rfl⟩
      replace H : (snowlineref01_drift.l0 k1 a1 a2 (wrap64 (x8_1 + 1)) a0_0 a0_1 l0_2 ji22 (mn x543001_1 (wrap64 (((rd_T26 l0_2 x8_1).f3) + (wrap64 (a0_1 * t545)))))) = some (r1, r2) := by first | (rw [hji22] at H; exact H) | (simp only [hji22] at H ⊢; exact H)
      (try rw [hji22] at A21)
      have hji22_ : (if x543000_1 < (wrap64 (((rd_T26 l0_2 x8_1).f2) - (wrap64 (a0_1 * t545)))) then (wrap64 (((rd_T26 l0_2 x8_1).f2) - (wrap64 (a0_1 * t545)))) else x543000_1) = ji22 := hji22
      obtain ⟨ji23, hji23⟩ : ∃ j_ : Int, (mn x543001_1 (wrap64 (((rd_T26 l0_2 x8_1).f3) + (wrap64 (a0_1 * t545))))) = j_ := ⟨_, rfl⟩
      replace H : (snowlineref01_drift.l0 k1 a1 a2 (wrap64 (x8_1 + 1)) a0_0 a0_1 l0_2 ji22 ji23) = some (r1, r2) := by first | (rw [hji23] at H; exact H) | (simp only [hji23] at H ⊢; exact H)
      (try rw [hji23] at A21)
      have hji23_ : (if (wrap64 (((rd_T26 l0_2 x8_1).f3) + (wrap64 (a0_1 * t545)))) < x543001_1 then (wrap64 (((rd_T26 l0_2 x8_1).f3) + (wrap64 (a0_1 * t545)))) else x543001_1) = ji23 := hji23
      have H' := Aside0.mk H
      clear H
      obtain ⟨hnb24, hnc24⟩ := nn NB540_541
      obtain ⟨hnb25, hnc25⟩ := nn NB540_542
      obtain ⟨hcz26_0, hcz26_1, hcz26_2, hfz26_0, hfz26_1, hfz26_2⟩ := cz3 BK540
      have p543 : 0 ≤ (x8_1 : Int) := of_decide_eq_true (by first | (with_reducible assumption) | assumption)
      have q543 : x8_1 < (l0_2.length : Int) := of_decide_eq_true (by first | (with_reducible assumption) | assumption)
      obtain ⟨ad543, e543, hx543_0, hx543_1, hx543_2, hx543_3⟩ := at_T26 HR0_2.out x8_1 p543 q543
      cases e543
      replace hx543_0 := cB HB hx543_0
      replace hx543_1 := cB HB hx543_1
      replace hx543_2 := cB HB hx543_2
      replace hx543_3 := cB HB hx543_3
      replace p543 := eq_true p543
      replace q543 := eq_true q543
      go_wp2_with (first | ((with_reducible refine gate_dst (N := 9) rfl ?_); refine bxE 9 26 #[.int .i64 0, .int .i64 0, .int .i64 0, .int .i64 0] (by rfl) (by rfl) (by first | (go_simp; done) | (go_simp; rfl)) ?_; intro gb544 hg w27 hbox hb; have BK544 := Bk.mk (hbox); have GE544 := eB w hg; have NB540_544 := nB gb540 hg; have NB541_544 := nB gb541 hg; have NB542_544 := nB gb542 hg; replace BK540 := kB gb540 hb; replace BK541 := kB gb541 hb; replace BK542 := kB gb542 hb; replace HB := bS w hb; clear hb hbox hg; obtain ⟨hnc28, hnb28⟩ := nn NB540_544; obtain ⟨hnc29, hnb29⟩ := nn NB541_544; obtain ⟨hnc30, hnb30⟩ := nn NB542_544; obtain ⟨hcz31_0, hcz31_1, hcz31_2, hcz31_3, hfz31_0, hfz31_1, hfz31_2, hfz31_3⟩ := cz4 BK544; obtain ⟨hcz32_0, hcz32_1, hcz32_2, hfz32_0, hfz32_1, hfz32_2⟩ := cz3 BK540) | (go_at_call 103; (with_reducible refine (snowlineref01_far.calls ((rd_T26 l0_2 x8_1).f0) a1 t545 _ A21.out).mono ?_); rintro e w' ⟨rfl, ⟨nd, rfl⟩⟩; (try first | exact ⟨rfl, _, World.drewN_drewN _ _ _⟩ | exact ⟨rfl, _, Eq.trans (World.drewN_drewN _ _ _) (congrArg (World.drewN _) (Nat.add_assoc _ _ _))⟩); obtain ⟨hnc33, hnb33⟩ := nn NB541_542; obtain ⟨hcz34_0, hcz34_1, hfz34_0, hfz34_1⟩ := cz2 BK542))
      repeat (go_quiet (first | ((with_reducible refine gate_dst (N := 9) rfl ?_); refine bxE 9 26 #[.int .i64 0, .int .i64 0, .int .i64 0, .int .i64 0] (by rfl) (by rfl) (by first | (go_simp; done) | (go_simp; rfl)) ?_; intro gb544 hg w27 hbox hb; have BK544 := Bk.mk (hbox); have GE544 := eB w hg; have NB540_544 := nB gb540 hg; have NB541_544 := nB gb541 hg; have NB542_544 := nB gb542 hg; replace BK540 := kB gb540 hb; replace BK541 := kB gb541 hb; replace BK542 := kB gb542 hb; replace HB := bS w hb; clear hb hbox hg; obtain ⟨hnc28, hnb28⟩ := nn NB540_544; obtain ⟨hnc29, hnb29⟩ := nn NB541_544; obtain ⟨hnc30, hnb30⟩ := nn NB542_544; obtain ⟨hcz31_0, hcz31_1, hcz31_2, hcz31_3, hfz31_0, hfz31_1, hfz31_2, hfz31_3⟩ := cz4 BK544; obtain ⟨hcz32_0, hcz32_1, hcz32_2, hfz32_0, hfz32_1, hfz32_2⟩ := cz3 BK540) | (go_at_call 103; (with_reducible refine (snowlineref01_far.calls ((rd_T26 l0_2 x8_1).f0) a1 t545 _ A21.out).mono ?_); rintro e w' ⟨rfl, ⟨nd, rfl⟩⟩; (try first | exact ⟨rfl, _, World.drewN_drewN _ _ _⟩ | exact ⟨rfl, _, Eq.trans (World.drewN_drewN _ _ _) (congrArg (World.drewN _) (Nat.add_assoc _ _ _))⟩); obtain ⟨hnc33, hnb33⟩ := nn NB541_542; obtain ⟨hcz34_0, hcz34_1, hfz34_0, hfz34_1⟩ := cz2 BK542)); try go_wp2_with (first | ((with_reducible refine gate_dst (N := 9) rfl ?_); refine bxE 9 26 #[.int .i64 0, .int .i64 0, .int .i64 0, .int .i64 0] (by rfl) (by rfl) (by first | (go_simp; done) | (go_simp; rfl)) ?_; intro gb544 hg w27 hbox hb; have BK544 := Bk.mk (hbox); have GE544 := eB w hg; have NB540_544 := nB gb540 hg; have NB541_544 := nB gb541 hg; have NB542_544 := nB gb542 hg; replace BK540 := kB gb540 hb; replace BK541 := kB gb541 hb; replace BK542 := kB gb542 hb; replace HB := bS w hb; clear hb hbox hg; obtain ⟨hnc28, hnb28⟩ := nn NB540_544; obtain ⟨hnc29, hnb29⟩ := nn NB541_544; obtain ⟨hnc30, hnb30⟩ := nn NB542_544; obtain ⟨hcz31_0, hcz31_1, hcz31_2, hcz31_3, hfz31_0, hfz31_1, hfz31_2, hfz31_3⟩ := cz4 BK544; obtain ⟨hcz32_0, hcz32_1, hcz32_2, hfz32_0, hfz32_1, hfz32_2⟩ := cz3 BK540) | (go_at_call 103; (with_reducible refine (snowlineref01_far.calls ((rd_T26 l0_2 x8_1).f0) a1 t545 _ A21.out).mono ?_); rintro e w' ⟨rfl, ⟨nd, rfl⟩⟩; (try first | exact ⟨rfl, _, World.drewN_drewN _ _ _⟩ | exact ⟨rfl, _, Eq.trans (World.drewN_drewN _ _ _) (congrArg (World.drewN _) (Nat.add_assoc _ _ _))⟩); obtain ⟨hnc33, hnb33⟩ := nn NB541_542; obtain ⟨hcz34_0, hcz34_1, hfz34_0, hfz34_1⟩ := cz2 BK542)))
      go_roundg k1
      case measure => have := HK1.out; omega
      case rel => exact ⟨(wrap64 (x8_1 + 1)), (ji22), (ji23), (by first | rfl | (simp; done) | (simp [*]; done)), H', ⟨by have := HK1.out; omega⟩, ⟨bko gb540 (by rfl)⟩, ⟨bko gb541 (by rfl)⟩, ⟨bko gb542 (by rfl)⟩, inferInstance⟩
    ·
     rw [if_neg c11] at H
     exact absurd H (by simp)
   ·
    rw [if_neg c10] at H
    have c10b0 : decide (x8_1 < (l0_2.length : Int)) = false := decide_eq_false c10
    clear c10
    simp only [Option.some.injEq, Prod.mk.injEq] at H
    obtain ⟨rfl, rfl⟩ := H
    obtain ⟨hnb35, hnc35⟩ := nn NB540_541
    obtain ⟨hnb36, hnc36⟩ := nn NB540_542
    obtain ⟨hcz37_0, hcz37_1, hcz37_2, hfz37_0, hfz37_1, hfz37_2⟩ := cz3 BK540
    obtain ⟨hnc38, hnb38⟩ := nn NB541_542
    obtain ⟨hcz39_0, hcz39_1, hfz39_0, hfz39_1⟩ := cz2 BK542
    obtain ⟨hcz40_0, hcz40_1, hfz40_0, hfz40_1⟩ := cz2 BK541
    go_wp2
    repeat (go_quiet (fail); try go_wp2)
    all_goals (refine bodyPost_ret (results_cell_row rfl _ _ gb541 40 #[.int .i64 x543000_1, .int .i64 x543001_1] (0, 0) _ rfl (bko gb541 (by rfl)) Tryd.underlying40 rfl (by kernel_rfl)) rfl ?_; exact ⟨by first | rfl | (simp [errW_none, errW_some] <;> rfl) | (simp [*, errW_none, errW_some] <;> rfl), bw w⟩)
end Go.Proofs.YtapijkdgkajoeaaDoor.PF
end
section
namespace Go.Proofs.YtapijkdgkajoeaaDoor.PF
open Go.RowKit Go.Proofs.YtapijkdgkajoeaaDoorW.PrintWords Go.Proofs.YtapijkdgkajoeaaDoorW.PrintMore
def dstep (rate on known : Int) (t : S26) (s : Int × Int) : Int × Int := if t.f1 ≤ known then (mx s.1 (t.f2 - rate * dist t.f0 on), mn s.2 (t.f3 + rate * dist t.f0 on)) else s
def driftOf (rate : Int) (l : List S26) (on known : Int) : Int × Int := (List.range l.length).foldl (fun s i => dstep rate on known (at26 l i) s) (-1048576, 1048576)
def DIn (s : Int × Int) : Prop := -1048576 ≤ s.1 ∧ s.1 ≤ 1048576 ∧ -1048576 ≤ s.2 ∧ s.2 ≤ 1048576
theorem dstep_in {rate on known : Int} {t : S26} {s : Int × Int} (h0 : 0 ≤ rate) (h1 : rate ≤ 1000) (ht : OkT t) (ho : DayOk on) (h : DIn s) : DIn (dstep rate on known t s) := by
  have d := dist_range ht.1 ho
  have m := mulb h0 h1 d.1 d.2
  obtain ⟨_, _, t2, t3, t4⟩ := ht
  obtain ⟨a, b, c, e⟩ := h
  unfold dstep
  generalize rate * dist t.f0 on = q at *
  split
  · unfold DIn mx mn
    dsimp only
    refine ⟨?_, ?_, ?_, ?_⟩ <;> split <;> omega
  · exact ⟨a, b, c, e⟩
theorem course_drift_eq (no rate : Int) (l : List S26) (on known : Int) (hs : OkS no rate l) (ho : DayOk on) : DIn (driftOf rate l on known) ∧ Ev (fun k => course_drift.f k no rate l on known) (driftOf rate l on known) := by
  obtain ⟨_, h0, h1, hn, hl⟩ := hs
  obtain ⟨t, hI, ht, hev⟩ := fold1 l.length (fun k i (s : Int × Int) => course_drift.l0 k on known l (l.length : Int) i no rate l s.1 s.2) (fun i s => dstep rate on known (at26 l i) s) (fun _ s => DIn s) (fun s => (s.1, s.2))
    (fun i s hi hs => dstep_in h0 h1 (okL_at hl hi) ho hs)
    (fun k i s hi hs => by
      have hw : wrap64 ((i : Int) + 1) = (i : Int) + 1 := w64 (by omega) (by omega)
      have hT := okL_at hl hi
      have d := dist_range hT.1 ho
      have m := mulb h0 h1 d.1 d.2
      obtain ⟨t0, t1, t2, t3, t4⟩ := hT
      simp only [course_drift.l0]
      rw [if_pos (by omega), if_pos (by omega), if_pos (by omega), rd_at26, hw]
      unfold dstep
      by_cases hk : (at26 l i).f1 ≤ known
      · rw [if_pos hk, if_pos hk, course_apart_eq (day_b t0) (day_b ho)]
        simp only [Option.bind_some, course_ends_wider.f, course_ends_meet.f]
        rw [w64 (x := rate * dist (at26 l i).f0 on) (by omega) (by omega), w64 (x := (at26 l i).f2 - rate * dist (at26 l i).f0 on) (by omega) (by omega), w64 (x := (at26 l i).f3 + rate * dist (at26 l i).f0 on) (by omega) (by omega)]
      · rw [if_neg hk, if_neg hk])
    (fun k s _ => by simp only [course_drift.l0]; rw [if_neg (by omega)]) (-1048576, 1048576) ⟨by decide, by decide, by decide, by decide⟩
  have e : t = driftOf rate l on known := ht
  subst e
  refine ⟨hI, ?_⟩
  unfold course_drift.f
  exact Ev.bindc (a := ((-1048576 : Int), (1048576 : Int))) rfl hev
theorem ref_drift_eq (no rate : Int) (l : List S26) (on known : Int) (hs : OkS no rate l) (ho : DayOk on) : Ev (fun k => snowlineref01_drift.f k no rate l on known) (driftOf rate l on known) := by
  obtain ⟨_, h0, h1, hn, hl⟩ := hs
  obtain ⟨t, hI, ht, hev⟩ := fold1 l.length (fun k i (s : Int × Int) => snowlineref01_drift.l0 k on known i no rate l s.1 s.2) (fun i s => dstep rate on known (at26 l i) s) (fun _ s => DIn s) (fun s => (s.1, s.2))
    (fun i s hi hs => dstep_in h0 h1 (okL_at hl hi) ho hs)
    (fun k i s hi hs => by
      have hw : wrap64 ((i : Int) + 1) = (i : Int) + 1 := w64 (by omega) (by omega)
      have hT := okL_at hl hi
      have d := dist_range hT.1 ho
      have m := mulb h0 h1 d.1 d.2
      obtain ⟨t0, t1, t2, t3, t4⟩ := hT
      simp only [snowlineref01_drift.l0]
      rw [if_pos (by omega), if_pos (by omega), rd_at26, hw]
      unfold dstep
      by_cases hk : (at26 l i).f1 ≤ known
      · rw [if_neg (by omega), if_pos hk, ref_far_eq (day_b t0) (day_b ho)]
        simp only [Option.bind_some]
        rw [w64 (x := rate * dist (at26 l i).f0 on) (by omega) (by omega), w64 (x := (at26 l i).f2 - rate * dist (at26 l i).f0 on) (by omega) (by omega), w64 (x := (at26 l i).f3 + rate * dist (at26 l i).f0 on) (by omega) (by omega)]
      · rw [if_pos (by omega), if_neg hk])
    (fun k s _ => by simp only [snowlineref01_drift.l0]; rw [if_neg (by omega)]) (-1048576, 1048576) ⟨by decide, by decide, by decide, by decide⟩
  have e : t = driftOf rate l on known := ht
  subst e
  exact hev
def askE (e : Int) (ds : List Int) : Int := if e = 0 then (if ∀ d ∈ ds, DayOk d then 0 else 1) else e
theorem course_ask_eq (no rate : Int) (l : List S26) (ds : List Int) (hn : l.length ≤ 100) (hd : ds.length ≤ 100) : ∃ e, ErrS no rate l e ∧ Ev (fun k => course_ask.f k no rate l ds) (askE e ds) := by
  obtain ⟨e, he, hev⟩ := course_CheckScale_eq no rate l hn
  refine ⟨e, he, ?_⟩
  unfold course_ask.f
  refine Ev.bind hev ?_
  unfold askE
  by_cases h : e = 0
  · refine Ev.congr (fun k => if_pos h) ?_
    rw [if_pos h]
    have step : ∀ k (i : Nat), i < ds.length → course_ask.l0 (k + 1) ds (ds.length : Int) (i : Int) = if DayOk (ds.getD i 0) then course_ask.l0 k ds (ds.length : Int) ((i : Int) + 1) else some 1 := by
      intro k i hi
      have hw : wrap64 ((i : Int) + 1) = (i : Int) + 1 := w64 (by omega) (by omega)
      have hr : rd ds (i : Int) = ds.getD i 0 := by simp [rd]
      simp only [course_ask.l0]
      rw [if_pos (by omega), if_pos (by omega), if_pos (by omega), hr, course_day_eq, hw]
      simp only [Option.bind_some, decide_eq_true_eq]
    rcases search1 ds.length (fun k i => course_ask.l0 k ds (ds.length : Int) i) (fun i => ¬ DayOk (ds.getD i 0)) (fun _ => 1) 0
      (fun k i hi hb _ => by rw [step k i hi, if_neg hb]) (fun k i hi hb _ => by rw [step k i hi, if_pos (Classical.not_not.1 hb)]) (fun k _ => by simp only [course_ask.l0]; rw [if_neg (by omega)]) with ⟨i, hi, hb, _, hev⟩ | ⟨hall, hev⟩
    · rw [if_neg (fun hh => hb (by
        have : ds.getD i 0 = ds[i] := by simp [List.getD, hi]
        rw [this]
        exact hh _ (List.getElem_mem hi)))]
      exact hev
    · rw [if_pos (fun d hd => by
        obtain ⟨i, hi, rfl⟩ := List.mem_iff_getElem.1 hd
        have : ds.getD i 0 = ds[i] := by simp [List.getD, hi]
        have h2 := Classical.not_not.1 (hall i hi)
        rwa [this] at h2)]
      exact hev
  · refine Ev.congr (fun k => if_neg h) ?_
    rw [if_neg h]
    exact Ev.now e
theorem errS_ok {no rate : Int} {l : List S26} {e : Int} (h : ErrS no rate l e) (h0 : e = 0) : OkS no rate l := (h.zero.1 h0).1
theorem askE_zero {e : Int} {ds : List Int} (h : askE e ds = 0) : e = 0 ∧ ∀ d ∈ ds, DayOk d := by
  unfold askE at h
  split at h
  · rename_i h0
    split at h
    · rename_i h1
      exact ⟨h0, h1⟩
    · omega
  · rename_i h0
    exact absurd h h0
end Go.Proofs.YtapijkdgkajoeaaDoor.PF
end
section
namespace Go.Proofs.YtapijkdgkajoeaaDoor.PF
open Go.RowKit Go.Proofs.YtapijkdgkajoeaaDoorW.PrintWords Go.Proofs.YtapijkdgkajoeaaDoorW.PrintLast Go.Proofs.YtapijkdgkajoeaaDoorW.PrintMore
attribute [local go_sem] max2_int min2_int max_two min_two
set_option linter.unusedVariables false
set_option linter.unusedSimpArgs false
attribute [local go_sem high] ixA103_1
def course_rising.l0 : Nat → List Int → List Int → Int → Int → Option (Bool)
 | 0, _, _, _, _ => none
 | k + 1, x0, x5, x6, x7 => if x7 < x6 then (if 0 ≤ x7 then (if x7 < (x5.length : Int) then ((course_day.f (rd x5 x7)).bind fun t275 => (if t275 = true then (if x7 > 0 then (if 0 ≤ (wrap64 (x7 - 1)) then (if (wrap64 (x7 - 1)) < (x0.length : Int) then (if (rd x0 (wrap64 (x7 - 1))) ≥ (rd x5 x7) then (some false) else (course_rising.l0 k x0 x5 x6 (wrap64 (x7 + 1)))) else (none)) else (none)) else (course_rising.l0 k x0 x5 x6 (wrap64 (x7 + 1)))) else (some false))) else (none)) else (none)) else (some (decide ((x0.length : Int) ≤ 64)))
def course_rising.f (k : Nat) (l0 : List Int) : Option (Bool) := course_rising.l0 k l0 l0 (l0.length : Int) 0
theorem course_rising.mono_l : ∀ k, (∀ y0 y1 y2 y3, LeO (course_rising.l0 k y0 y1 y2 y3) (course_rising.l0 (k + 1) y0 y1 y2 y3))
 | 0 => fun _ _ _ _ r h => by simp [course_rising.l0] at h
 | k + 1 => by
  have ih0 := course_rising.mono_l k
  ·
   intro y0 y1 y2 y3
   unfold course_rising.l0
   repeat' first
   | (with_reducible exact ih0 _ _ _ _)
   | (with_reducible exact LeO.refl _)
   | (with_reducible exact LeO.none _)
   | (with_reducible refine LeO.ite ?_ ?_)
   | (with_reducible refine LeO.bind ?_ (fun _ => ?_))
   | exact ih0 _ _ _ _
   | exact LeO.none _
   | refine LeO.ite ?_ ?_
   | refine LeO.bind ?_ (fun _ => ?_)
theorem course_rising.mono : ∀ a0 k, LeO (course_rising.f k a0) (course_rising.f (k + 1) a0) := by
 intro a0 k
 have ih0 := course_rising.mono_l k
 unfold course_rising.f
 repeat' first
   | (with_reducible exact ih0 _ _ _ _)
   | (with_reducible exact LeO.refl _)
   | (with_reducible exact LeO.none _)
   | (with_reducible refine LeO.ite ?_ ?_)
   | (with_reducible refine LeO.bind ?_ (fun _ => ?_))
   | exact ih0 _ _ _ _
   | exact LeO.none _
   | refine LeO.ite ?_ ?_
   | refine LeO.bind ?_ (fun _ => ?_)
set_option maxHeartbeats 8000000 in
set_option maxRecDepth 100000 in
theorem course_rising.calls (k : Nat) (A0 : Option Addr) (c0 : Nat) (l0 : List Int) (r : Bool) (w : World) (hr0 : Kd.C (Kd.int .i64) w A0 l0.length l0) (hc0 : l0.length ≤ c0) (h : course_rising.f k l0 = some r) :
  Calls Tryd.prog 97 #[.slice A0 l0.length c0] w fun e w' => e = .returned (.bool r) ∧ Drawn0 w w' := by
 have HR0 := Aside0.mk (hr0)
 have HC0 := Aside0.mk (hc0)
 clear hr0 hc0
 have H : (course_rising.l0 k l0 l0 (l0.length : Int) 0) = some r := h
 clear h
 have H' := Aside0.mk H
 clear H
 go_enter Tryd.func97, Tryd.ntmps97
 go_wp2
 go_loopg [7] k (fun kq v7 w' => ∃ (x7_1 : Int), v7 = .int .i64 x7_1 ∧ Aside0 (course_rising.l0 kq l0 l0 (l0.length : Int) x7_1 = some r) ∧ Aside0 (kq ≤ k) ∧ Drawn0 w w')
 case atStart => exact ⟨(0), (by first | rfl | (simp; done) | (simp [*]; done)), H', ⟨Nat.le_refl _⟩, by repeat (first | exact Drawn0.refl _ | apply Drawn0.step)⟩
 case round =>
  clear H'
  obtain ⟨x7_1, rfl, HA, HK1, ⟨m1, rfl⟩⟩ := hrel
  cases gk with
  | zero => exact absurd HA.out (by simp [course_rising.l0])
  | succ k1 =>
   have H := HA.out
   clear HA
   simp only [course_rising.l0] at H
   by_cases c2 : x7_1 < (l0.length : Int)
   ·
    rw [if_pos c2] at H
    have c2b0 : decide (x7_1 < (l0.length : Int)) = true := decide_eq_true c2
    clear c2
    by_cases c3 : 0 ≤ x7_1
    ·
     rw [if_pos c3] at H
     have c3b0 : decide (0 ≤ x7_1) = true := decide_eq_true c3
     clear c3
     by_cases c4 : x7_1 < (l0.length : Int)
     ·
      rw [if_pos c4] at H
      have c4b0 : decide (x7_1 < (l0.length : Int)) = true := decide_eq_true c4
      clear c4
      replace H := Option.bind_eq_some_iff.mp H
      obtain ⟨t275, A50, H⟩ := H
      have A5 := Aside0.mk (A50)
      clear A50
      by_cases c6 : t275 = true
      ·
       subst c6
       rw [if_pos rfl] at H
       by_cases c7 : x7_1 > 0
       ·
        rw [if_pos c7] at H
        have c7b0 : decide (0 < x7_1) = true := decide_eq_true c7
        clear c7
        obtain ⟨ji8, hji8⟩ : ∃ j_ : Int, (wrap64 (x7_1 - 1)) = j_ := ⟨_, rfl⟩
        replace H : (if 0 ≤ (ji8) then (if (ji8) < (l0.length : Int) then (if (rd l0 (ji8)) ≥ (rd l0 x7_1) then (some false) else (course_rising.l0 k1 l0 l0 (l0.length : Int) (wrap64 (x7_1 + 1)))) else (none)) else (none)) = some r := by first | (rw [hji8] at H; exact H) | (simp only [hji8] at H ⊢; exact H)
        (try rw [hji8] at A5)
        have hji8w : (IntKind.i64.wrap (x7_1 - 1)) = ji8 := (i64_w _).trans hji8
        by_cases c9 : 0 ≤ (ji8)
        ·
         rw [if_pos c9] at H
         have c9b0 : decide (0 ≤ (ji8)) = true := decide_eq_true c9
         clear c9
         by_cases c10 : (ji8) < (l0.length : Int)
         ·
          rw [if_pos c10] at H
          have c10b0 : decide ((ji8) < (l0.length : Int)) = true := decide_eq_true c10
          clear c10
          by_cases c11 : (rd l0 (ji8)) ≥ (rd l0 x7_1)
          ·
           rw [if_pos c11] at H
           have c11b0 : decide ((rd l0 x7_1) ≤ (rd l0 (ji8))) = true := decide_eq_true c11
           clear c11
           obtain rfl := Option.some.inj H
           have p274 : 0 ≤ (x7_1 : Int) := of_decide_eq_true (by first | (with_reducible assumption) | assumption)
           have q274 : x7_1 < (l0.length : Int) := of_decide_eq_true (by first | (with_reducible assumption) | assumption)
           obtain ⟨ad274, e274, hx274_0⟩ := Kd.at_int HR0.out x7_1 p274 q274
           cases e274
           replace p274 := eq_true p274
           replace q274 := eq_true q274
           go_wp2_with (first | ((with_reducible refine gate_callee (f := 74) rfl ?_); refine goesLM (some 13) rfl rfl Tryd.func74 (by kernel_rfl) rfl #[.int .i64 (rd l0 x7_1)] rfl (by rfl) ?_; (with_reducible refine (course_day.calls (rd l0 x7_1) true _ A5.out).mono ?_); rintro e w' ⟨rfl, ⟨nd, rfl⟩⟩; refine ⟨_, rfl, ?_⟩; have p276 : 0 ≤ ((ji8) : Int) := of_decide_eq_true (by first | (with_reducible assumption) | assumption); have q276 : (ji8) < (l0.length : Int) := of_decide_eq_true (by first | (with_reducible assumption) | assumption); obtain ⟨ad276, e276, hx276_0⟩ := Kd.at_int HR0.out (ji8) p276 q276; obtain rfl : ad274 = ad276 := (by injection e276); replace p276 := eq_true p276; replace q276 := eq_true q276))
           go_ret
           exact ⟨by first | rfl | (simp; done) | (simp only [← hji8] <;> (first | rfl | simp)) | (simp [*]; done), by repeat (first | exact Drawn0.refl _ | apply Drawn0.step)⟩
          ·
           rw [if_neg c11] at H
           have c11b0 : decide ((rd l0 x7_1) ≤ (rd l0 (ji8))) = false := decide_eq_false c11
           clear c11
           have H' := Aside0.mk H
           clear H
           have p274 : 0 ≤ (x7_1 : Int) := of_decide_eq_true (by first | (with_reducible assumption) | assumption)
           have q274 : x7_1 < (l0.length : Int) := of_decide_eq_true (by first | (with_reducible assumption) | assumption)
           obtain ⟨ad274, e274, hx274_0⟩ := Kd.at_int HR0.out x7_1 p274 q274
           cases e274
           replace p274 := eq_true p274
           replace q274 := eq_true q274
           go_wp2_with (first | ((with_reducible refine gate_callee (f := 74) rfl ?_); refine goesLM (some 13) rfl rfl Tryd.func74 (by kernel_rfl) rfl #[.int .i64 (rd l0 x7_1)] rfl (by rfl) ?_; (with_reducible refine (course_day.calls (rd l0 x7_1) true _ A5.out).mono ?_); rintro e w' ⟨rfl, ⟨nd, rfl⟩⟩; refine ⟨_, rfl, ?_⟩; have p276 : 0 ≤ ((ji8) : Int) := of_decide_eq_true (by first | (with_reducible assumption) | assumption); have q276 : (ji8) < (l0.length : Int) := of_decide_eq_true (by first | (with_reducible assumption) | assumption); obtain ⟨ad276, e276, hx276_0⟩ := Kd.at_int HR0.out (ji8) p276 q276; obtain rfl : ad274 = ad276 := (by injection e276); replace p276 := eq_true p276; replace q276 := eq_true q276))
           go_roundg k1
           case measure => have := HK1.out; omega
           case rel => exact ⟨(wrap64 (x7_1 + 1)), (by first | rfl | (simp; done) | (simp [*]; done)), H', ⟨by have := HK1.out; omega⟩, by repeat (first | exact Drawn0.refl _ | apply Drawn0.step)⟩
         ·
          rw [if_neg c10] at H
          exact absurd H (by simp)
        ·
         rw [if_neg c9] at H
         exact absurd H (by simp)
       ·
        rw [if_neg c7] at H
        have c7b0 : decide (0 < x7_1) = false := decide_eq_false c7
        clear c7
        have H' := Aside0.mk H
        clear H
        have p274 : 0 ≤ (x7_1 : Int) := of_decide_eq_true (by first | (with_reducible assumption) | assumption)
        have q274 : x7_1 < (l0.length : Int) := of_decide_eq_true (by first | (with_reducible assumption) | assumption)
        obtain ⟨ad274, e274, hx274_0⟩ := Kd.at_int HR0.out x7_1 p274 q274
        cases e274
        replace p274 := eq_true p274
        replace q274 := eq_true q274
        go_wp2_with (first | ((with_reducible refine gate_callee (f := 74) rfl ?_); refine goesLM (some 13) rfl rfl Tryd.func74 (by kernel_rfl) rfl #[.int .i64 (rd l0 x7_1)] rfl (by rfl) ?_; (with_reducible refine (course_day.calls (rd l0 x7_1) true _ A5.out).mono ?_); rintro e w' ⟨rfl, ⟨nd, rfl⟩⟩; refine ⟨_, rfl, ?_⟩))
        go_roundg k1
        case measure => have := HK1.out; omega
        case rel => exact ⟨(wrap64 (x7_1 + 1)), (by first | rfl | (simp; done) | (simp [*]; done)), H', ⟨by have := HK1.out; omega⟩, by repeat (first | exact Drawn0.refl _ | apply Drawn0.step)⟩
      ·
       replace c6 := Bool.eq_false_iff.mpr c6
       subst c6
       rw [if_neg (show ¬ (false = true) by decide)] at H
       obtain rfl := Option.some.inj H
       have p274 : 0 ≤ (x7_1 : Int) := of_decide_eq_true (by first | (with_reducible assumption) | assumption)
       have q274 : x7_1 < (l0.length : Int) := of_decide_eq_true (by first | (with_reducible assumption) | assumption)
       obtain ⟨ad274, e274, hx274_0⟩ := Kd.at_int HR0.out x7_1 p274 q274
       cases e274
       replace p274 := eq_true p274
       replace q274 := eq_true q274
       go_wp2_with (first | ((with_reducible refine gate_callee (f := 74) rfl ?_); refine goesLM (some 13) rfl rfl Tryd.func74 (by kernel_rfl) rfl #[.int .i64 (rd l0 x7_1)] rfl (by rfl) ?_; (with_reducible refine (course_day.calls (rd l0 x7_1) false _ A5.out).mono ?_); rintro e w' ⟨rfl, ⟨nd, rfl⟩⟩; refine ⟨_, rfl, ?_⟩))
       go_ret
       exact ⟨by first | rfl | (simp; done) | (simp [*]; done), by repeat (first | exact Drawn0.refl _ | apply Drawn0.step)⟩
     ·
      rw [if_neg c4] at H
      exact absurd H (by simp)
    ·
     rw [if_neg c3] at H
     exact absurd H (by simp)
   ·
    rw [if_neg c2] at H
    have c2b0 : decide (x7_1 < (l0.length : Int)) = false := decide_eq_false c2
    clear c2
    obtain rfl := Option.some.inj H
    go_wp2
    go_ret
    exact ⟨by first | rfl | (simp; done) | (simp [*]; done), by repeat (first | exact Drawn0.refl _ | apply Drawn0.step)⟩
def course_within.f (a0 : Int) (a1 : Int) (a2 : Int) : Option (Bool) := (course_apart.f a0 a1).bind fun t277 => (some (decide (t277 ≤ a2)))
set_option maxHeartbeats 8000000 in
set_option maxRecDepth 100000 in
theorem course_within.calls (a0 : Int) (a1 : Int) (a2 : Int) (r : Bool) (w : World) (h : course_within.f a0 a1 a2 = some r) :
  Calls Tryd.prog 132 #[.int .i64 a0, .int .i64 a1, .int .i64 a2] w fun e w' => e = .returned (.bool r) ∧ Below w.heap.size w w' := by
 have HB := Bw.mk (Below.refl w.heap.size w)
 have H : ((course_apart.f a0 a1).bind fun t277 => (some (decide (t277 ≤ a2)))) = some r := h
 clear h
 replace H := Option.bind_eq_some_iff.mp H
 obtain ⟨t277, A40, H⟩ := H
 have A4 := Aside0.mk (A40)
 clear A40
 obtain rfl := Option.some.inj H
 go_enter Tryd.func132, Tryd.ntmps132
 go_wp2_with (first | ((with_reducible refine gate_callee (f := 101) rfl ?_); refine goesLM (some 9) rfl rfl Tryd.func101 (by kernel_rfl) rfl #[.int .i64 a0, .int .i64 a1] rfl (by rfl) ?_; (with_reducible refine (course_apart.calls a0 a1 t277 _ A4.out).mono ?_); rintro e w5 ⟨rfl, hb⟩; refine ⟨_, rfl, ?_⟩; replace HB := bS w hb; (try clear hb)))
 go_ret
 exact ⟨by first | rfl | (simp [errW_none, errW_some] <;> rfl) | (simp [*, errW_none, errW_some] <;> rfl), bw w⟩
mutual
def course_possible.l0 : Nat → Int → List Int → List Int → List Int → Int → Int → Int → Int → List (S26) → Option (Bool)
 | 0, _, _, _, _, _, _, _, _, _ => none
 | k + 1, x1, x2, x3, x12, x13, x14, x279000, x279001, x279002 => if x14 < x13 then (if 0 ≤ x14 then (if x14 < (x12.length : Int) then ((course_drift.f k x279000 x279001 x279002 (rd x12 x14) x1).bind fun bt280 => (if x14 < (x3.length : Int) then (if (rd x3 x14) < bt280.1 then (course_possible.j1 k x1 x2 x3 x14 (rd x12 x14) x12 x13 x14 true x279000 x279001 x279002) else (course_possible.j1 k x1 x2 x3 x14 (rd x12 x14) x12 x13 x14 (decide ((rd x3 x14) > bt280.2)) x279000 x279001 x279002)) else (none))) else (none)) else (none)) else (some true)
def course_possible.j1 : Nat → Int → List Int → List Int → Int → Int → List Int → Int → Int → Bool → Int → Int → List (S26) → Option (Bool)
 | 0, _, _, _, _, _, _, _, _, _, _, _, _ => none
 | k + 1, x1, x2, x3, x9, x10, x12, x13, x14, x38, x279000, x279001, x279002 => if x38 = true then (some false) else (if x9 > 0 then (if 0 ≤ (wrap64 (x9 - 1)) then (if (wrap64 (x9 - 1)) < (x3.length : Int) then (if 0 ≤ x9 then (if x9 < (x3.length : Int) then (if (wrap64 (x9 - 1)) < (x2.length : Int) then ((course_within.f (rd x3 (wrap64 (x9 - 1))) (rd x3 x9) (wrap64 (x279001 * (wrap64 (x10 - (rd x2 (wrap64 (x9 - 1)))))))).bind fun t288 => (if t288 = true then (course_possible.l0 k x1 x2 x3 x12 x13 (wrap64 (x14 + 1)) x279000 x279001 x279002) else (some false))) else (none)) else (none)) else (none)) else (none)) else (none)) else (course_possible.l0 k x1 x2 x3 x12 x13 (wrap64 (x14 + 1)) x279000 x279001 x279002))
end
def course_possible.f (k : Nat) (a0_0 : Int) (a0_1 : Int) (l0_2 : List (S26)) (a1 : Int) (l2 : List Int) (l3 : List Int) : Option (Bool) := course_possible.l0 k a1 l2 l3 l2 (l2.length : Int) 0 a0_0 a0_1 l0_2
theorem course_possible.mono_l : ∀ k, (∀ y0 y1 y2 y3 y4 y5 y6 y7 y8, LeO (course_possible.l0 k y0 y1 y2 y3 y4 y5 y6 y7 y8) (course_possible.l0 (k + 1) y0 y1 y2 y3 y4 y5 y6 y7 y8)) ∧ (∀ y0 y1 y2 y3 y4 y5 y6 y7 y8 y9 y10 y11, LeO (course_possible.j1 k y0 y1 y2 y3 y4 y5 y6 y7 y8 y9 y10 y11) (course_possible.j1 (k + 1) y0 y1 y2 y3 y4 y5 y6 y7 y8 y9 y10 y11))
 | 0 => ⟨fun _ _ _ _ _ _ _ _ _ r h => by simp [course_possible.l0] at h, fun _ _ _ _ _ _ _ _ _ _ _ _ r h => by simp [course_possible.j1] at h⟩
 | k + 1 => by
  obtain ⟨ih0, ih1⟩ := course_possible.mono_l k
  refine ⟨?_, ?_⟩
  ·
   intro y0 y1 y2 y3 y4 y5 y6 y7 y8
   unfold course_possible.l0
   repeat' first
   | (with_reducible exact ih0 _ _ _ _ _ _ _ _ _)
   | (with_reducible exact ih1 _ _ _ _ _ _ _ _ _ _ _ _)
   | (with_reducible exact course_drift.mono _ _ _ _ _ _)
   | (with_reducible exact LeO.refl _)
   | (with_reducible exact LeO.none _)
   | (with_reducible refine LeO.ite ?_ ?_)
   | (with_reducible refine LeO.bind ?_ (fun _ => ?_))
   | exact ih0 _ _ _ _ _ _ _ _ _
   | exact ih1 _ _ _ _ _ _ _ _ _ _ _ _
   | exact course_drift.mono _ _ _ _ _ _
   | exact LeO.none _
   | refine LeO.ite ?_ ?_
   | refine LeO.bind ?_ (fun _ => ?_)
  ·
   intro y0 y1 y2 y3 y4 y5 y6 y7 y8 y9 y10 y11
   unfold course_possible.j1
   repeat' first
   | (with_reducible exact ih0 _ _ _ _ _ _ _ _ _)
   | (with_reducible exact ih1 _ _ _ _ _ _ _ _ _ _ _ _)
   | (with_reducible exact course_drift.mono _ _ _ _ _ _)
   | (with_reducible exact LeO.refl _)
   | (with_reducible exact LeO.none _)
   | (with_reducible refine LeO.ite ?_ ?_)
   | (with_reducible refine LeO.bind ?_ (fun _ => ?_))
   | exact ih0 _ _ _ _ _ _ _ _ _
   | exact ih1 _ _ _ _ _ _ _ _ _ _ _ _
   | exact course_drift.mono _ _ _ _ _ _
   | exact LeO.none _
   | refine LeO.ite ?_ ?_
   | refine LeO.bind ?_ (fun _ => ?_)
theorem course_possible.mono : ∀ a0 a1 a2 a3 a4 a5 k, LeO (course_possible.f k a0 a1 a2 a3 a4 a5) (course_possible.f (k + 1) a0 a1 a2 a3 a4 a5) := by
 intro a0 a1 a2 a3 a4 a5 k
 obtain ⟨ih0, ih1⟩ := course_possible.mono_l k
 unfold course_possible.f
 repeat' first
   | (with_reducible exact ih0 _ _ _ _ _ _ _ _ _)
   | (with_reducible exact ih1 _ _ _ _ _ _ _ _ _ _ _ _)
   | (with_reducible exact course_drift.mono _ _ _ _ _ _)
   | (with_reducible exact LeO.refl _)
   | (with_reducible exact LeO.none _)
   | (with_reducible refine LeO.ite ?_ ?_)
   | (with_reducible refine LeO.bind ?_ (fun _ => ?_))
   | exact ih0 _ _ _ _ _ _ _ _ _
   | exact ih1 _ _ _ _ _ _ _ _ _ _ _ _
   | exact course_drift.mono _ _ _ _ _ _
   | exact LeO.none _
   | refine LeO.ite ?_ ?_
   | refine LeO.bind ?_ (fun _ => ?_)
def course_possible.T5 : Bool × List (List Nat × List Nat) := (true, [([], []), ([], []), ([0, 1], [0, 1]), ([2], [2]), ([], []), ([4], [4]), ([3, 5], [3, 5]), ([6], [6]), ([7], [7]), ([7], [7]), ([8, 9, 7], [7, 8, 9]), ([10, 7], [7, 10]), ([7], [7]), ([12, 7], [7, 12]), ([11, 13, 7], [7, 11, 13]), ([7, 14], [7, 14])])
def course_possible.B5 : List Nat := [0, 0, 3, 7, 0, 16, 63, 127, 255, 255, 1023, 2047, 255, 4351, 16383, 32767]
theorem course_possible.tab5 : rtab .any (opsOf Tryd.f98 5) = course_possible.T5 := by kernel_rfl
theorem course_possible.bits5 : waitsOk course_possible.T5.2 course_possible.B5 = true := by kernel_rfl
def course_possible.T7 : Bool × List (List Nat × List Nat) := (true, [([], []), ([0], [0]), ([1], [1]), ([2], [2]), ([2], [2]), ([4, 2], [2, 4]), ([3, 5, 2], [2, 3, 5]), ([6, 2], [2, 6]), ([2], [2]), ([2], [2]), ([8, 9, 2], [2, 8, 9]), ([10, 2], [2, 10]), ([2], [2]), ([12, 2], [2, 12]), ([2], [2]), ([2], [2]), ([2], [2]), ([16, 2], [2, 16]), ([15, 17, 2], [2, 15, 17]), ([18, 2], [2, 18]), ([14, 19, 2], [2, 14, 19]), ([13, 20, 2], [2, 13, 20]), ([7, 11, 21, 2, 2], [2, 7, 11, 21]), ([22, 2], [2, 22]), ([2, 23], [2, 23])])
def course_possible.B7 : List Nat := [0, 1, 3, 7, 7, 23, 63, 127, 7, 7, 775, 1799, 7, 4103, 7, 7, 7, 65543, 229383, 491527, 1032199, 2093063, 4194303, 8388607, 16777215]
theorem course_possible.tab7 : rtab .any (opsOf Tryd.f98 7) = course_possible.T7 := by kernel_rfl
theorem course_possible.bits7 : waitsOk course_possible.T7.2 course_possible.B7 = true := by kernel_rfl
set_option maxHeartbeats 8000000 in
set_option maxRecDepth 100000 in
theorem course_possible.calls (k : Nat) (a0_0 : Int) (a0_1 : Int) (A0_2 : Option Addr) (c0_2 : Nat) (l0_2 : List (S26)) (a1 : Int) (A2 : Option Addr) (c2 : Nat) (l2 : List Int) (A3 : Option Addr) (c3 : Nat) (l3 : List Int) (r : Bool) (w : World) (hr0_2 : Kd.C k26 w A0_2 l0_2.length l0_2) (hc0_2 : l0_2.length ≤ c0_2) (hr2 : Kd.C (Kd.int .i64) w A2 l2.length l2) (hc2 : l2.length ≤ c2) (hr3 : Kd.C (Kd.int .i64) w A3 l3.length l3) (hc3 : l3.length ≤ c3) (h : course_possible.f k a0_0 a0_1 l0_2 a1 l2 l3 = some r) :
  Calls Tryd.prog 98 #[.agg #[.int .i64 a0_0, .int .i64 a0_1, .slice A0_2 l0_2.length c0_2], .int .i64 a1, .slice A2 l2.length c2, .slice A3 l3.length c3] w fun e w' => e = .returned (.bool r) ∧ Below w.heap.size w w' := by
 have hu24 := Tryd.underlying24
 have hu103 := Tryd.underlying103
 have HR0_2 := Aside0.mk (hr0_2)
 have HC0_2 := Aside0.mk (hc0_2)
 clear hr0_2 hc0_2
 have HR2 := Aside0.mk (hr2)
 have HC2 := Aside0.mk (hc2)
 clear hr2 hc2
 have HR3 := Aside0.mk (hr3)
 have HC3 := Aside0.mk (hc3)
 clear hr3 hc3
 have HB := Bw.mk (Below.refl w.heap.size w)
 have H : (course_possible.l0 k a1 l2 l3 l2 (l2.length : Int) 0 a0_0 a0_1 l0_2) = some r := h
 clear h
 have H' := Aside0.mk H
 clear H
 go_enter Tryd.func98, Tryd.ntmps98
 go_wp2_with (first | ((with_reducible refine gate_dst (N := 4) rfl ?_); refine bxE 4 24 #[.int .i64 a0_0, .int .i64 a0_1, .slice A0_2 l0_2.length c0_2] (by rfl) (by rfl) (by first | (go_simp; done) | (go_simp; rfl)) ?_; intro gb278 hg w5 hbox hb; have BK278 := Bk.mk (hbox); have GE278 := eB w hg; replace HB := bS w hb; clear hb hbox hg))
 go_loopg [14] k (fun kq v14 w' => ∃ (x14_1 : Int), v14 = .int .i64 x14_1 ∧ Aside0 (course_possible.l0 kq a1 l2 l3 l2 (l2.length : Int) x14_1 a0_0 a0_1 l0_2 = some r) ∧ Aside0 (kq ≤ k) ∧ Bk w' gb278 (.cells #[.int .i64 a0_0, .int .i64 a0_1, (.slice A0_2 l0_2.length c0_2)] 24 (0, 0)) ∧ Bw w w')
 case atStart => exact ⟨(0), (by first | rfl | (simp; done) | (simp [*]; done)), H', ⟨Nat.le_refl _⟩, inferInstance, inferInstance⟩
 case round =>
  clear H'
  try clear c2
  try clear p2
  try clear c3
  obtain ⟨x14_1, rfl, HA, HK1, BK278, HB⟩ := hrel
  cases gk with
  | zero => exact absurd HA.out (by simp [course_possible.l0])
  | succ k1 =>
   have H := HA.out
   clear HA
   simp only [course_possible.l0] at H
   by_cases c6 : x14_1 < (l2.length : Int)
   ·
    rw [if_pos c6] at H
    have c6b0 : decide (x14_1 < (l2.length : Int)) = true := decide_eq_true c6
    clear c6
    by_cases c7 : 0 ≤ x14_1
    ·
     rw [if_pos c7] at H
     have c7b0 : decide (0 ≤ x14_1) = true := decide_eq_true c7
     clear c7
     by_cases c8 : x14_1 < (l2.length : Int)
     ·
      rw [if_pos c8] at H
      have c8b0 : decide (x14_1 < (l2.length : Int)) = true := decide_eq_true c8
      clear c8
      replace H := Option.bind_eq_some_iff.mp H
      obtain ⟨⟨t280, t281⟩, A90, H⟩ := H
      have A9 := Aside0.mk (A90)
      clear A90
      have HC10 := Aside0.mk (H)
      clear H
      have p279 : 0 ≤ (x14_1 : Int) := of_decide_eq_true (by first | (with_reducible assumption) | assumption)
      have q279 : x14_1 < (l2.length : Int) := of_decide_eq_true (by first | (with_reducible assumption) | assumption)
      obtain ⟨ad279, e279, hx279_0⟩ := Kd.at_int HR2.out x14_1 p279 q279
      cases e279
      replace hx279_0 := cB HB hx279_0
      replace p279 := eq_true p279
      replace q279 := eq_true q279
      obtain ⟨hcz11_0, hcz11_1, hcz11_2, hfz11_0, hfz11_1, hfz11_2⟩ := cz3 BK278
      go_upto_region 5 with (first | ((with_reducible refine gate_callee (f := 77) rfl ?_); refine goesLM (some 22) rfl rfl Tryd.func77 (by kernel_rfl) rfl #[.agg #[.int .i64 a0_0, .int .i64 a0_1, .slice A0_2 l0_2.length c0_2], .int .i64 (rd l2 x14_1), .int .i64 a1] rfl (by rfl) ?_; (with_reducible refine (course_drift.calls k1 a0_0 a0_1 _ _ l0_2 (rd l2 x14_1) a1 t280 t281 _ ?side1 ?side2 A9.out).mono ?_); (case side1 => exact cP (Kd.C_below HR0_2.out HB.out)); (case side2 => exact HC0_2.out); rintro e w12 ⟨rfl, hb⟩; refine ⟨_, rfl, ?_⟩; replace BK278 := kB gb278 hb; replace HB := bS w hb; (try clear hb)) | ((with_reducible refine gate_dst (N := 11) rfl ?_); refine bxE 11 103 #[.int .i64 0, .int .i64 0] (by rfl) (by rfl) (by first | (go_simp; done) | (go_simp; rfl)) ?_; intro gb282 hg w13 hbox hb; have BK282 := Bk.mk (hbox); have GE282 := eB w hg; have NB278_282 := nB gb278 hg; replace BK278 := kB gb278 hb; replace HB := bS w hb; clear hb hbox hg; obtain ⟨hnc14, hnb14⟩ := nn NB278_282; obtain ⟨hcz15_0, hcz15_1, hfz15_0, hfz15_1⟩ := cz2 BK282))
      (try simp only [Act.put, List.setIfInBounds_toArray, List.set_cons_zero, List.set_cons_succ])
      go_cut [38] (fun v38 wc => ∃ (kq : Nat) (x38_9 : Bool), v38 = .bool x38_9 ∧ Aside0 (course_possible.j1 kq a1 l2 l3 x14_1 (rd l2 x14_1) l2 (l2.length : Int) x14_1 x38_9 a0_0 a0_1 l0_2 = some r) ∧ Aside0 (kq ≤ k1) ∧ Bk wc gb278 (.cells #[.int .i64 a0_0, .int .i64 a0_1, (.slice A0_2 l0_2.length c0_2)] 24 (0, 0)) ∧ Bk wc gb282 (.cells #[.int .i64 t280, .int .i64 t281] 103 (0, 0)) ∧ Bw w wc)
      case first =>
       have H := HC10.out
       clear HC10
       by_cases c16 : x14_1 < (l3.length : Int)
       ·
        rw [if_pos c16] at H
        have c16b0 : decide (x14_1 < (l3.length : Int)) = true := decide_eq_true c16
        clear c16
        (first | rw [c16b0] | (simp only [i64_w]; rw [c16b0]) | skip)
        by_cases c17 : (rd l3 x14_1) < t280
        ·
         rw [if_pos c17] at H
         have c17b0 : decide ((rd l3 x14_1) < t280) = true := decide_eq_true c17
         clear c17
         have H' := Aside0.mk H
         clear H
         try go_wp2
         have n0_ : Bk ((w13.setCell ⟨gb282, 0, none⟩ (.int .i64 t280)).setCell ⟨gb282, 1, none⟩ (.int .i64 t281)) gb278 (.cells #[.int .i64 a0_0, .int .i64 a0_1, .slice A0_2 l0_2.length c0_2] 24 (0, 0)) := ⟨bko gb278 (by rfl)⟩
         have n1_ : Bk ((w13.setCell ⟨gb282, 0, none⟩ (.int .i64 t280)).setCell ⟨gb282, 1, none⟩ (.int .i64 t281)) gb282 (.cells #[.int .i64 t280, .int .i64 t281] 103 (0, 0)) := ⟨bko gb282 (by rfl)⟩
         have n2_ : Bw w ((w13.setCell ⟨gb282, 0, none⟩ (.int .i64 t280)).setCell ⟨gb282, 1, none⟩ (.int .i64 t281)) := inferInstance
         (try clear BK278)
         (try clear BK282)
         (try clear HB)
         generalize ((w13.setCell ⟨gb282, 0, none⟩ (.int .i64 t280)).setCell ⟨gb282, 1, none⟩ (.int .i64 t281)) = w18 at n0_ n1_ n2_ ⊢
         have BK278 := n0_
         have BK282 := n1_
         have HB := n2_
         clear n0_ n1_ n2_
         have n0_ := Bk.mk (blk_drew BK278.out)
         have n1_ := Bk.mk (blk_drew BK282.out)
         have n2_ := Bw.mk (below_drew1 HB.out)
         clear BK278 BK282 HB
         have BK278 := n0_
         have BK282 := n1_
         have HB := n2_
         clear n0_ n1_ n2_
         have p283 : 0 ≤ (x14_1 : Int) := of_decide_eq_true (by first | (with_reducible assumption) | assumption)
         have q283 : x14_1 < (l3.length : Int) := of_decide_eq_true (by first | (with_reducible assumption) | assumption)
         obtain ⟨ad283, e283, hx283_0⟩ := Kd.at_int HR3.out x14_1 p283 q283
         have hw283_0 := hx283_0
         cases e283
         replace hx283_0 := cB HB hx283_0
         replace p283 := eq_true p283
         replace q283 := eq_true q283
         refine start_ (n := 16) (S := fun w' => w'.cell? ⟨gb282, 0, none⟩ = some (.int .i64 t280) ∧ w'.cell? ⟨gb282, 1, none⟩ = some (.int .i64 t281) ∧ w'.cell? (ad283.add (x14_1).toNat) = some (.int .i64 (rd l3 x14_1))) (ds := []) #[false, false, false, false, false, false, false, false, false, false, false, false, false, false, false, false] (by kernel_rfl) rfl rfl ⟨bc BK282 0, bc BK282 1, ((HB.out.cell (World.block_lt_of_cell? w _ hw283_0)).trans hw283_0)⟩ (fun hHeld => ?_); refine with_tabW course_possible.tab5 course_possible.bits5 (fun HT_ HW_ => ?_)
         generalize w18.drew = w19 at BK278 BK282 HB hx283_0 hHeld ⊢
         refine pS 0 (some 23) rfl rfl (any_of HT_.out (by kernel_rfl)) (fun _ _ _ h => h) (by rfl) (fun w' => by go_simp; with_reducible rfl) (by simp only [Act.put, List.setIfInBounds_toArray, List.set_cons_zero, List.set_cons_succ, i64_w]; rfl) ?_
         refine pS 1 (some 24) rfl rfl (any_of HT_.out (by kernel_rfl)) (fun _ _ _ h => h) (by rfl) (fun w' => by go_simp; with_reducible rfl) (by simp only [Act.put, List.setIfInBounds_toArray, List.set_cons_zero, List.set_cons_succ, i64_w]; rfl) ?_
         refine pS 2 (some 25) rfl rfl (any_of HT_.out (by kernel_rfl)) (fun _ _ _ h => h) (by rfl) (fun w' => by go_simp; with_reducible rfl) (by simp only [Act.put, List.setIfInBounds_toArray, List.set_cons_zero, List.set_cons_succ, i64_w]; rfl) ?_
         refine pS 4 (some 27) rfl rfl (any_of HT_.out (by kernel_rfl)) (fun _ _ _ h => h) (by rfl) (fun w' => by go_simp; with_reducible rfl) (by simp only [Act.put, List.setIfInBounds_toArray, List.set_cons_zero, List.set_cons_succ, i64_w]; rfl) ?_
         refine tS 3 (some 26) rfl rfl (take_ofW HT_.out HW_.out (by kernel_rfl)) (fun _ _ _ h => h) (by rfl) (by rintro w' ⟨s0, s1, s2⟩; go_simp; with_reducible rfl) hHeld (by simp only [Act.put, List.setIfInBounds_toArray, List.set_cons_zero, List.set_cons_succ, i64_w]; rfl) ?_
         refine tS 5 (some 28) rfl rfl (take_ofW HT_.out HW_.out (by kernel_rfl)) (fun _ _ _ h => h) (by rfl) (by rintro w' ⟨s0, s1, s2⟩; go_simp; with_reducible rfl) hHeld (by simp only [Act.put, List.setIfInBounds_toArray, List.set_cons_zero, List.set_cons_succ, i64_w]; rfl) ?_
         refine pS 6 (some 29) rfl rfl (any_of HT_.out (by kernel_rfl)) (fun _ _ _ h => h) (by rfl) (fun w' => by go_simp; with_reducible rfl) (by simp only [Act.put, List.setIfInBounds_toArray, List.set_cons_zero, List.set_cons_succ, i64_w]; rfl) ?_
         refine pS 7 (some 30) rfl rfl (any_of HT_.out (by kernel_rfl)) (fun _ _ _ h => h) (by rfl) (fun w' => by go_simp; with_reducible rfl) (by simp only [Act.put, List.setIfInBounds_toArray, List.set_cons_zero, List.set_cons_succ, i64_w]; rfl) ?_
         refine pU 8 (some 31) rfl rfl (any_of HT_.out (by kernel_rfl)) (fun _ _ _ h => h) (by rfl) (by simp only [Act.put, List.setIfInBounds_toArray, List.set_cons_zero, List.set_cons_succ, i64_w]; rfl) ?_
         refine pU 9 (some 32) rfl rfl (any_of HT_.out (by kernel_rfl)) (fun _ _ _ h => h) (by rfl) (by simp only [Act.put, List.setIfInBounds_toArray, List.set_cons_zero, List.set_cons_succ, i64_w]; rfl) ?_
         refine pU 10 (some 33) rfl rfl (any_of HT_.out (by kernel_rfl)) (fun _ _ _ h => h) (by rfl) (by simp only [Act.put, List.setIfInBounds_toArray, List.set_cons_zero, List.set_cons_succ, i64_w]; rfl) ?_
         refine pU 11 (some 34) rfl rfl (any_of HT_.out (by kernel_rfl)) (fun _ _ _ h => h) (by rfl) (by simp only [Act.put, List.setIfInBounds_toArray, List.set_cons_zero, List.set_cons_succ, i64_w]; rfl) ?_
         refine pU 12 (some 35) rfl rfl (any_of HT_.out (by kernel_rfl)) (fun _ _ _ h => h) (by rfl) (by simp only [Act.put, List.setIfInBounds_toArray, List.set_cons_zero, List.set_cons_succ, i64_w]; rfl) ?_
         refine pU 13 (some 36) rfl rfl (any_of HT_.out (by kernel_rfl)) (fun _ _ _ h => h) (by rfl) (by simp only [Act.put, List.setIfInBounds_toArray, List.set_cons_zero, List.set_cons_succ, i64_w]; rfl) ?_
         refine pU 14 (some 37) rfl rfl (any_of HT_.out (by kernel_rfl)) (fun _ _ _ h => h) (by rfl) (by simp only [Act.put, List.setIfInBounds_toArray, List.set_cons_zero, List.set_cons_succ, i64_w]; rfl) ?_
         refine pS 15 (some 38) rfl rfl (any_of HT_.out (by kernel_rfl)) (fun _ _ _ h => h) (by rfl) (fun w' => by go_simp; with_reducible rfl) (by simp only [Act.put, List.setIfInBounds_toArray, List.set_cons_zero, List.set_cons_succ, i64_w]; rfl) ?_
         refine done_ (done_of HT_.out (by kernel_rfl)) ?_
         try go_wp2
         go_meet
         case rel => exact ⟨_, (true), (by first | rfl | (simp; done) | (simp [*]; done)), H', ⟨by have := HK1.out; first | omega | exact Nat.le_refl _⟩, inferInstance, inferInstance, inferInstance⟩
        ·
         rw [if_neg c17] at H
         have c17b0 : decide ((rd l3 x14_1) < t280) = false := decide_eq_false c17
         clear c17
         have H' := Aside0.mk H
         clear H
         try go_wp2
         have n0_ : Bk ((w13.setCell ⟨gb282, 0, none⟩ (.int .i64 t280)).setCell ⟨gb282, 1, none⟩ (.int .i64 t281)) gb278 (.cells #[.int .i64 a0_0, .int .i64 a0_1, .slice A0_2 l0_2.length c0_2] 24 (0, 0)) := ⟨bko gb278 (by rfl)⟩
         have n1_ : Bk ((w13.setCell ⟨gb282, 0, none⟩ (.int .i64 t280)).setCell ⟨gb282, 1, none⟩ (.int .i64 t281)) gb282 (.cells #[.int .i64 t280, .int .i64 t281] 103 (0, 0)) := ⟨bko gb282 (by rfl)⟩
         have n2_ : Bw w ((w13.setCell ⟨gb282, 0, none⟩ (.int .i64 t280)).setCell ⟨gb282, 1, none⟩ (.int .i64 t281)) := inferInstance
         (try clear BK278)
         (try clear BK282)
         (try clear HB)
         generalize ((w13.setCell ⟨gb282, 0, none⟩ (.int .i64 t280)).setCell ⟨gb282, 1, none⟩ (.int .i64 t281)) = w20 at n0_ n1_ n2_ ⊢
         have BK278 := n0_
         have BK282 := n1_
         have HB := n2_
         clear n0_ n1_ n2_
         have n0_ := Bk.mk (blk_drew BK278.out)
         have n1_ := Bk.mk (blk_drew BK282.out)
         have n2_ := Bw.mk (below_drew1 HB.out)
         clear BK278 BK282 HB
         have BK278 := n0_
         have BK282 := n1_
         have HB := n2_
         clear n0_ n1_ n2_
         have p283 : 0 ≤ (x14_1 : Int) := of_decide_eq_true (by first | (with_reducible assumption) | assumption)
         have q283 : x14_1 < (l3.length : Int) := of_decide_eq_true (by first | (with_reducible assumption) | assumption)
         obtain ⟨ad283, e283, hx283_0⟩ := Kd.at_int HR3.out x14_1 p283 q283
         have hw283_0 := hx283_0
         cases e283
         replace hx283_0 := cB HB hx283_0
         replace p283 := eq_true p283
         replace q283 := eq_true q283
         have p284 : 0 ≤ (x14_1 : Int) := of_decide_eq_true (by first | (with_reducible assumption) | assumption)
         have q284 : x14_1 < (l3.length : Int) := of_decide_eq_true (by first | (with_reducible assumption) | assumption)
         obtain ⟨ad284, e284, hx284_0⟩ := Kd.at_int HR3.out x14_1 p284 q284
         have hw284_0 := hx284_0
         obtain rfl : ad283 = ad284 := (by injection e284)
         replace hx284_0 := cB HB hx284_0
         replace p284 := eq_true p284
         replace q284 := eq_true q284
         refine start_ (n := 16) (S := fun w' => w'.cell? ⟨gb282, 0, none⟩ = some (.int .i64 t280) ∧ w'.cell? ⟨gb282, 1, none⟩ = some (.int .i64 t281) ∧ w'.cell? (ad283.add (x14_1).toNat) = some (.int .i64 (rd l3 x14_1)) ∧ w'.cell? (ad283.add (x14_1).toNat) = some (.int .i64 (rd l3 x14_1))) (ds := []) #[false, false, false, false, false, false, false, false, false, false, false, false, false, false, false, false] (by kernel_rfl) rfl rfl ⟨bc BK282 0, bc BK282 1, ((HB.out.cell (World.block_lt_of_cell? w _ hw283_0)).trans hw283_0), ((HB.out.cell (World.block_lt_of_cell? w _ hw284_0)).trans hw284_0)⟩ (fun hHeld => ?_); refine with_tabW course_possible.tab5 course_possible.bits5 (fun HT_ HW_ => ?_)
         generalize w20.drew = w21 at BK278 BK282 HB hx283_0 hx284_0 hHeld ⊢
         refine pS 0 (some 23) rfl rfl (any_of HT_.out (by kernel_rfl)) (fun _ _ _ h => h) (by rfl) (fun w' => by go_simp; with_reducible rfl) (by simp only [Act.put, List.setIfInBounds_toArray, List.set_cons_zero, List.set_cons_succ, i64_w]; rfl) ?_
         refine pS 1 (some 24) rfl rfl (any_of HT_.out (by kernel_rfl)) (fun _ _ _ h => h) (by rfl) (fun w' => by go_simp; with_reducible rfl) (by simp only [Act.put, List.setIfInBounds_toArray, List.set_cons_zero, List.set_cons_succ, i64_w]; rfl) ?_
         refine pS 2 (some 25) rfl rfl (any_of HT_.out (by kernel_rfl)) (fun _ _ _ h => h) (by rfl) (fun w' => by go_simp; with_reducible rfl) (by simp only [Act.put, List.setIfInBounds_toArray, List.set_cons_zero, List.set_cons_succ, i64_w]; rfl) ?_
         refine pS 4 (some 27) rfl rfl (any_of HT_.out (by kernel_rfl)) (fun _ _ _ h => h) (by rfl) (fun w' => by go_simp; with_reducible rfl) (by simp only [Act.put, List.setIfInBounds_toArray, List.set_cons_zero, List.set_cons_succ, i64_w]; rfl) ?_
         refine tS 3 (some 26) rfl rfl (take_ofW HT_.out HW_.out (by kernel_rfl)) (fun _ _ _ h => h) (by rfl) (by rintro w' ⟨s0, s1, s2, s3⟩; go_simp; with_reducible rfl) hHeld (by simp only [Act.put, List.setIfInBounds_toArray, List.set_cons_zero, List.set_cons_succ, i64_w]; rfl) ?_
         refine tS 5 (some 28) rfl rfl (take_ofW HT_.out HW_.out (by kernel_rfl)) (fun _ _ _ h => h) (by rfl) (by rintro w' ⟨s0, s1, s2, s3⟩; go_simp; with_reducible rfl) hHeld (by simp only [Act.put, List.setIfInBounds_toArray, List.set_cons_zero, List.set_cons_succ, i64_w]; rfl) ?_
         refine pS 6 (some 29) rfl rfl (any_of HT_.out (by kernel_rfl)) (fun _ _ _ h => h) (by rfl) (fun w' => by go_simp; with_reducible rfl) (by simp only [Act.put, List.setIfInBounds_toArray, List.set_cons_zero, List.set_cons_succ, i64_w]; rfl) ?_
         refine pS 7 (some 30) rfl rfl (any_of HT_.out (by kernel_rfl)) (fun _ _ _ h => h) (by rfl) (fun w' => by go_simp; with_reducible rfl) (by simp only [Act.put, List.setIfInBounds_toArray, List.set_cons_zero, List.set_cons_succ, i64_w]; rfl) ?_
         refine pS 8 (some 31) rfl rfl (any_of HT_.out (by kernel_rfl)) (fun _ _ _ h => h) (by rfl) (fun w' => by go_simp; with_reducible rfl) (by simp only [Act.put, List.setIfInBounds_toArray, List.set_cons_zero, List.set_cons_succ, i64_w]; rfl) ?_
         refine pS 9 (some 32) rfl rfl (any_of HT_.out (by kernel_rfl)) (fun _ _ _ h => h) (by rfl) (fun w' => by go_simp; with_reducible rfl) (by simp only [Act.put, List.setIfInBounds_toArray, List.set_cons_zero, List.set_cons_succ, i64_w]; rfl) ?_
         refine pS 10 (some 33) rfl rfl (any_of HT_.out (by kernel_rfl)) (fun _ _ _ h => h) (by rfl) (fun w' => by go_simp; with_reducible rfl) (by simp only [Act.put, List.setIfInBounds_toArray, List.set_cons_zero, List.set_cons_succ, i64_w]; rfl) ?_
         refine pS 12 (some 35) rfl rfl (any_of HT_.out (by kernel_rfl)) (fun _ _ _ h => h) (by rfl) (fun w' => by go_simp; with_reducible rfl) (by simp only [Act.put, List.setIfInBounds_toArray, List.set_cons_zero, List.set_cons_succ, i64_w]; rfl) ?_
         refine tS 11 (some 34) rfl rfl (take_ofW HT_.out HW_.out (by kernel_rfl)) (fun _ _ _ h => h) (by rfl) (by rintro w' ⟨s0, s1, s2, s3⟩; go_simp; with_reducible rfl) hHeld (by simp only [Act.put, List.setIfInBounds_toArray, List.set_cons_zero, List.set_cons_succ, i64_w]; rfl) ?_
         refine tS 13 (some 36) rfl rfl (take_ofW HT_.out HW_.out (by kernel_rfl)) (fun _ _ _ h => h) (by rfl) (by rintro w' ⟨s0, s1, s2, s3⟩; go_simp; with_reducible rfl) hHeld (by simp only [Act.put, List.setIfInBounds_toArray, List.set_cons_zero, List.set_cons_succ, i64_w]; rfl) ?_
         refine pS 14 (some 37) rfl rfl (any_of HT_.out (by kernel_rfl)) (fun _ _ _ h => h) (by rfl) (fun w' => by go_simp; with_reducible rfl) (by simp only [Act.put, List.setIfInBounds_toArray, List.set_cons_zero, List.set_cons_succ, i64_w]; rfl) ?_
         refine pS 15 (some 38) rfl rfl (any_of HT_.out (by kernel_rfl)) (fun _ _ _ h => h) (by rfl) (fun w' => by go_simp; with_reducible rfl) (by simp only [Act.put, List.setIfInBounds_toArray, List.set_cons_zero, List.set_cons_succ, i64_w]; rfl) ?_
         refine done_ (done_of HT_.out (by kernel_rfl)) ?_
         try go_wp2
         go_meet
         case rel => exact ⟨_, (decide ((rd l3 x14_1) > t281)), (by first | rfl | (simp; done) | (simp [*]; done)), H', ⟨by have := HK1.out; first | omega | exact Nat.le_refl _⟩, inferInstance, inferInstance, inferInstance⟩
       ·
        rw [if_neg c16] at H
        exact absurd H (by simp)
      case rest =>
       clear HC10
       try clear c1
       try clear c2
       try clear p2
       try clear q2
       try clear hx2
       try clear c3
       try clear c6
       try clear c6b0
       try clear c7
       try clear c7b0
       try clear c8
       try clear c8b0
       try clear c9
       try clear c14
       try clear c16
       try clear c16b0
       try clear c17
       try clear c17b0
       try clear hx279_0
       try clear hx283_0
       try clear hx284_0
       try clear p2
       try clear p279
       try clear p283
       try clear p284
       try clear q279
       try clear q283
       try clear q284
       obtain ⟨kq, x38_9, rfl, HA, HJ9, BK278, BK282, HB⟩ := hcut
       cases kq with
       | zero => exact absurd HA.out (by simp [course_possible.j1])
       | succ kj9 =>
        have H := HA.out
        clear HA
        simp only [course_possible.j1] at H
        by_cases c22 : x38_9 = true
        ·
         subst c22
         rw [if_pos rfl] at H
         obtain rfl := Option.some.inj H
         go_wp2
         go_ret
         exact ⟨by first | rfl | (simp [errW_none, errW_some] <;> rfl) | (simp [*, errW_none, errW_some] <;> rfl), bw w⟩
        ·
         replace c22 := Bool.eq_false_iff.mpr c22
         subst c22
         rw [if_neg (show ¬ (false = true) by decide)] at H
         by_cases c23 : x14_1 > 0
         ·
          rw [if_pos c23] at H
          have c23b0 : decide (0 < x14_1) = true := decide_eq_true c23
          clear c23
          obtain ⟨ji24, hji24⟩ : ∃ j_ : Int, (wrap64 (x14_1 - 1)) = j_ := ⟨_, rfl⟩
          replace H : (if 0 ≤ (ji24) then (if (ji24) < (l3.length : Int) then (if 0 ≤ x14_1 then (if x14_1 < (l3.length : Int) then (if (ji24) < (l2.length : Int) then ((course_within.f (rd l3 (ji24)) (rd l3 x14_1) (wrap64 (a0_1 * (wrap64 ((rd l2 x14_1) - (rd l2 (ji24))))))).bind fun t288 => (if t288 = true then (course_possible.l0 kj9 a1 l2 l3 l2 (l2.length : Int) (wrap64 (x14_1 + 1)) a0_0 a0_1 l0_2) else (some false))) else (none)) else (none)) else (none)) else (none)) else (none)) = some r := by first | (rw [hji24] at H; exact H) | (simp only [hji24] at H ⊢; exact H)
          have hji24w : (IntKind.i64.wrap (x14_1 - 1)) = ji24 := (i64_w _).trans hji24
          by_cases c25 : 0 ≤ (ji24)
          ·
           rw [if_pos c25] at H
           have c25b0 : decide (0 ≤ (ji24)) = true := decide_eq_true c25
           clear c25
           by_cases c26 : (ji24) < (l3.length : Int)
           ·
            rw [if_pos c26] at H
            have c26b0 : decide ((ji24) < (l3.length : Int)) = true := decide_eq_true c26
            clear c26
            by_cases c27 : 0 ≤ x14_1
            ·
             rw [if_pos c27] at H
             have c27b0 : decide (0 ≤ x14_1) = true := decide_eq_true c27
             clear c27
             by_cases c28 : x14_1 < (l3.length : Int)
             ·
              rw [if_pos c28] at H
              have c28b0 : decide (x14_1 < (l3.length : Int)) = true := decide_eq_true c28
              clear c28
              by_cases c29 : (ji24) < (l2.length : Int)
              ·
               rw [if_pos c29] at H
               have c29b0 : decide ((ji24) < (l2.length : Int)) = true := decide_eq_true c29
               clear c29
               replace H := Option.bind_eq_some_iff.mp H
               obtain ⟨t288, A300, H⟩ := H
               have A30 := Aside0.mk (A300)
               clear A300
               by_cases c31 : t288 = true
               ·
                subst c31
                rw [if_pos rfl] at H
                have H' := Aside0.mk H
                clear H
                try go_wp2
                have n0_ := Bk.mk (blk_drew BK278.out)
                have n1_ := Bk.mk (blk_drew BK282.out)
                have n2_ := Bw.mk (below_drew1 HB.out)
                clear BK278 BK282 HB
                have BK278 := n0_
                have BK282 := n1_
                have HB := n2_
                clear n0_ n1_ n2_
                have p285 : 0 ≤ ((ji24) : Int) := of_decide_eq_true (by first | (with_reducible assumption) | assumption)
                have q285 : (ji24) < (l3.length : Int) := of_decide_eq_true (by first | (with_reducible assumption) | assumption)
                obtain ⟨ad285, e285, hx285_0⟩ := Kd.at_int HR3.out (ji24) p285 q285
                have hw285_0 := hx285_0
                cases e285
                replace hx285_0 := cB HB hx285_0
                replace p285 := eq_true p285
                replace q285 := eq_true q285
                have p286 : 0 ≤ (x14_1 : Int) := of_decide_eq_true (by first | (with_reducible assumption) | assumption)
                have q286 : x14_1 < (l3.length : Int) := of_decide_eq_true (by first | (with_reducible assumption) | assumption)
                obtain ⟨ad286, e286, hx286_0⟩ := Kd.at_int HR3.out x14_1 p286 q286
                have hw286_0 := hx286_0
                obtain rfl : ad285 = ad286 := (by injection e286)
                replace hx286_0 := cB HB hx286_0
                replace p286 := eq_true p286
                replace q286 := eq_true q286
                have p287 : 0 ≤ ((ji24) : Int) := of_decide_eq_true (by first | (with_reducible assumption) | assumption)
                have q287 : (ji24) < (l2.length : Int) := of_decide_eq_true (by first | (with_reducible assumption) | assumption)
                obtain ⟨ad287, e287, hx287_0⟩ := Kd.at_int HR2.out (ji24) p287 q287
                have hw287_0 := hx287_0
                obtain rfl : ad279 = ad287 := (by injection e287)
                replace hx287_0 := cB HB hx287_0
                replace p287 := eq_true p287
                replace q287 := eq_true q287
                refine start_ (n := 25) (S := fun w' => w'.cell? ⟨gb278, 0, none⟩ = some (.int .i64 a0_0) ∧ w'.cell? ⟨gb278, 1, none⟩ = some (.int .i64 a0_1) ∧ w'.cell? ⟨gb278, 2, none⟩ = some (.slice A0_2 l0_2.length c0_2) ∧ w'.cell? (ad285.add ((ji24)).toNat) = some (.int .i64 (rd l3 (ji24))) ∧ w'.cell? (ad285.add (x14_1).toNat) = some (.int .i64 (rd l3 x14_1)) ∧ w'.cell? (ad279.add ((ji24)).toNat) = some (.int .i64 (rd l2 (ji24)))) (ds := []) #[false, false, false, false, false, false, false, false, false, false, false, false, false, false, false, false, false, false, false, false, false, false, false, false, false] (by kernel_rfl) rfl rfl ⟨bc BK278 0, bc BK278 1, bc BK278 2, ((HB.out.cell (World.block_lt_of_cell? w _ hw285_0)).trans hw285_0), ((HB.out.cell (World.block_lt_of_cell? w _ hw286_0)).trans hw286_0), ((HB.out.cell (World.block_lt_of_cell? w _ hw287_0)).trans hw287_0)⟩ (fun hHeld => ?_); refine with_tabW course_possible.tab7 course_possible.bits7 (fun HT_ HW_ => ?_)
                generalize wc.drew = w32 at BK278 BK282 HB hx285_0 hx286_0 hx287_0 hHeld ⊢
                refine pS 0 (some 39) rfl rfl (any_of HT_.out (by kernel_rfl)) (fun _ _ _ h => h) (by rfl) (fun w' => by go_simp; with_reducible rfl) (by simp only [Act.put, List.setIfInBounds_toArray, List.set_cons_zero, List.set_cons_succ, i64_w]; rfl) ?_
                refine pS 1 (some 40) rfl rfl (any_of HT_.out (by kernel_rfl)) (fun _ _ _ h => h) (by rfl) (fun w' => by go_simp; with_reducible rfl) (by simp only [Act.put, List.setIfInBounds_toArray, List.set_cons_zero, List.set_cons_succ, i64_w]; rfl) ?_
                refine pS 2 (some 41) rfl rfl (any_of HT_.out (by kernel_rfl)) (fun _ _ _ h => h) (by rfl) (fun w' => by go_simp; with_reducible rfl) (by simp only [Act.put, List.setIfInBounds_toArray, List.set_cons_zero, List.set_cons_succ, i64_w]; rfl) ?_
                refine pS 3 (some 42) rfl rfl (any_of HT_.out (by kernel_rfl)) (fun _ _ _ h => h) (by rfl) (fun w' => by go_simp; with_reducible rfl) (by simp only [Act.put, List.setIfInBounds_toArray, List.set_cons_zero, List.set_cons_succ, i64_w]; rfl) ?_
                refine pS 4 (some 43) rfl rfl (any_of HT_.out (by kernel_rfl)) (fun _ _ _ h => h) (by rfl) (fun w' => by go_simp; with_reducible rfl) (by simp only [Act.put, List.setIfInBounds_toArray, List.set_cons_zero, List.set_cons_succ, i64_w]; rfl) ?_
                refine pS 5 (some 44) rfl rfl (any_of HT_.out (by kernel_rfl)) (fun _ _ _ h => h) (by rfl) (fun w' => by go_simp; with_reducible rfl) (by simp only [Act.put, List.setIfInBounds_toArray, List.set_cons_zero, List.set_cons_succ, i64_w]; rfl) ?_
                refine pS 6 (some 45) rfl rfl (any_of HT_.out (by kernel_rfl)) (fun _ _ _ h => h) (by rfl) (fun w' => by go_simp; with_reducible rfl) (by simp only [Act.put, List.setIfInBounds_toArray, List.set_cons_zero, List.set_cons_succ, i64_w]; rfl) ?_
                refine pS 8 (some 47) rfl rfl (any_of HT_.out (by kernel_rfl)) (fun _ _ _ h => h) (by rfl) (fun w' => by go_simp; with_reducible rfl) (by simp only [Act.put, List.setIfInBounds_toArray, List.set_cons_zero, List.set_cons_succ, i64_w]; rfl) ?_
                refine pS 9 (some 48) rfl rfl (any_of HT_.out (by kernel_rfl)) (fun _ _ _ h => h) (by rfl) (fun w' => by go_simp; with_reducible rfl) (by simp only [Act.put, List.setIfInBounds_toArray, List.set_cons_zero, List.set_cons_succ, i64_w]; rfl) ?_
                refine pS 10 (some 49) rfl rfl (any_of HT_.out (by kernel_rfl)) (fun _ _ _ h => h) (by rfl) (fun w' => by go_simp; with_reducible rfl) (by simp only [Act.put, List.setIfInBounds_toArray, List.set_cons_zero, List.set_cons_succ, i64_w]; rfl) ?_
                refine pS 12 (some 51) rfl rfl (any_of HT_.out (by kernel_rfl)) (fun _ _ _ h => h) (by rfl) (fun w' => by go_simp; with_reducible rfl) (by simp only [Act.put, List.setIfInBounds_toArray, List.set_cons_zero, List.set_cons_succ, i64_w]; rfl) ?_
                refine pS 14 (some 53) rfl rfl (any_of HT_.out (by kernel_rfl)) (fun _ _ _ h => h) (by rfl) (fun w' => by go_simp; with_reducible rfl) (by simp only [Act.put, List.setIfInBounds_toArray, List.set_cons_zero, List.set_cons_succ, i64_w]; rfl) ?_
                refine pS 15 (some 54) rfl rfl (any_of HT_.out (by kernel_rfl)) (fun _ _ _ h => h) (by rfl) (fun w' => by go_simp; with_reducible rfl) (by simp only [Act.put, List.setIfInBounds_toArray, List.set_cons_zero, List.set_cons_succ, i64_w]; rfl) ?_
                refine pS 16 (some 55) rfl rfl (any_of HT_.out (by kernel_rfl)) (fun _ _ _ h => h) (by rfl) (fun w' => by go_simp; with_reducible rfl) (by simp only [Act.put, List.setIfInBounds_toArray, List.set_cons_zero, List.set_cons_succ, i64_w]; rfl) ?_
                refine pS 17 (some 56) rfl rfl (any_of HT_.out (by kernel_rfl)) (fun _ _ _ h => h) (by rfl) (fun w' => by go_simp; with_reducible rfl) (by simp only [Act.put, List.setIfInBounds_toArray, List.set_cons_zero, List.set_cons_succ, i64_w]; rfl) ?_
                refine pS 18 (some 57) rfl rfl (any_of HT_.out (by kernel_rfl)) (fun _ _ _ h => h) (by rfl) (fun w' => by go_simp; with_reducible rfl) (by simp only [Act.put, List.setIfInBounds_toArray, List.set_cons_zero, List.set_cons_succ, i64_w]; rfl) ?_
                refine tS 7 (some 46) rfl rfl (take_ofW HT_.out HW_.out (by kernel_rfl)) (fun _ _ _ h => h) (by rfl) (by rintro w' ⟨s0, s1, s2, s3, s4, s5⟩; go_simp; with_reducible rfl) hHeld (by simp only [Act.put, List.setIfInBounds_toArray, List.set_cons_zero, List.set_cons_succ, i64_w]; rfl) ?_
                refine tS 11 (some 50) rfl rfl (take_ofW HT_.out HW_.out (by kernel_rfl)) (fun _ _ _ h => h) (by rfl) (by rintro w' ⟨s0, s1, s2, s3, s4, s5⟩; go_simp; with_reducible rfl) hHeld (by simp only [Act.put, List.setIfInBounds_toArray, List.set_cons_zero, List.set_cons_succ, i64_w]; rfl) ?_
                refine tS 13 (some 52) rfl rfl (take_ofW HT_.out HW_.out (by kernel_rfl)) (fun _ _ _ h => h) (by rfl) (by rintro w' ⟨s0, s1, s2, s3, s4, s5⟩; go_simp; with_reducible rfl) hHeld (by simp only [Act.put, List.setIfInBounds_toArray, List.set_cons_zero, List.set_cons_succ, i64_w]; rfl) ?_
                refine tS 19 (some 58) rfl rfl (take_ofW HT_.out HW_.out (by kernel_rfl)) (fun _ _ _ h => h) (by rfl) (by rintro w' ⟨s0, s1, s2, s3, s4, s5⟩; go_simp; with_reducible rfl) hHeld (by simp only [Act.put, List.setIfInBounds_toArray, List.set_cons_zero, List.set_cons_succ, i64_w]; rfl) ?_
                refine pS 20 (some 59) rfl rfl (any_of HT_.out (by kernel_rfl)) (fun _ _ _ h => h) (by rfl) (fun w' => by go_simp; with_reducible rfl) (by simp only [Act.put, List.setIfInBounds_toArray, List.set_cons_zero, List.set_cons_succ, i64_w]; rfl) ?_
                refine pS 21 (some 60) rfl rfl (any_of HT_.out (by kernel_rfl)) (fun _ _ _ h => h) (by rfl) (fun w' => by go_simp; with_reducible rfl) (by simp only [Act.put, List.setIfInBounds_toArray, List.set_cons_zero, List.set_cons_succ, i64_w]; rfl) ?_
                refine one_ (i := 22) (N := some 61) #[true, true, true, true, true, true, true, true, true, true, true, true, true, true, true, true, true, true, true, true, true, true, true, false, false] rfl rfl (one_of HT_.out (by kernel_rfl)) (by decide) (fun K hK => ?_)
                refine goes_ Tryd.func132 (by kernel_rfl) rfl #[.int .i64 (rd l3 (ji24)), .int .i64 (rd l3 x14_1), .int .i64 (wrap64 (a0_1 * (wrap64 ((rd l2 x14_1) - (rd l2 (ji24))))))] (by rfl) rfl rfl (by (try simp only [List.map_toArray, List.map_cons, List.map_nil]); first | done | (simp only [hji24]; rfl) | rfl | (simp only [List.length_drop, List.length_take]; rfl)) ?_
                with_reducible refine (course_within.calls (rd l3 (ji24)) (rd l3 x14_1) (wrap64 (a0_1 * (wrap64 ((rd l2 x14_1) - (rd l2 (ji24)))))) true _ A30.out).mono ?_
                rintro e w33 ⟨rfl, hb⟩
                refine ⟨_, rfl, ?_⟩
                replace BK278 := kB gb278 hb
                replace BK282 := kB gb282 hb
                replace HB := bS w hb
                (try clear hb)
                refine hK.out _ _ ⟨bc BK278 0, bc BK278 1, bc BK278 2, ((HB.out.cell (World.block_lt_of_cell? w _ hw285_0)).trans hw285_0), ((HB.out.cell (World.block_lt_of_cell? w _ hw286_0)).trans hw286_0), ((HB.out.cell (World.block_lt_of_cell? w _ hw287_0)).trans hw287_0)⟩ (fun hHeld => ?_)
                clear hK K
                refine norm_ (a' := ?_) ?_ ?_
                rotate_left
                ·
                 show Act.put _ (some 61) _ = _
                 simp only [Act.put, List.setIfInBounds_toArray, List.set_cons_zero, List.set_cons_succ, i64_w]
                 rfl
                refine pS 23 (some 62) rfl rfl (any_of HT_.out (by kernel_rfl)) (fun _ _ _ h => h) (by rfl) (fun w' => by go_simp; with_reducible rfl) (by simp only [Act.put, List.setIfInBounds_toArray, List.set_cons_zero, List.set_cons_succ, i64_w]; rfl) ?_
                refine pS 24 (some 63) rfl rfl (any_of HT_.out (by kernel_rfl)) (fun _ _ _ h => h) (by rfl) (fun w' => by go_simp; with_reducible rfl) (by simp only [Act.put, List.setIfInBounds_toArray, List.set_cons_zero, List.set_cons_succ, i64_w]; rfl) ?_
                refine done_ (done_of HT_.out (by kernel_rfl)) ?_
                try go_wp2
                go_roundg kj9
                case measure => have := HK1.out; have := HJ9.out; omega
                case rel => exact ⟨(wrap64 (x14_1 + 1)), (by first | rfl | (simp; done) | (simp [*]; done)), H', ⟨by have := HK1.out; have := HJ9.out; omega⟩, inferInstance, inferInstance⟩
               ·
                replace c31 := Bool.eq_false_iff.mpr c31
                subst c31
                rw [if_neg (show ¬ (false = true) by decide)] at H
                obtain rfl := Option.some.inj H
                try go_wp2
                have n0_ := Bk.mk (blk_drew BK278.out)
                have n1_ := Bk.mk (blk_drew BK282.out)
                have n2_ := Bw.mk (below_drew1 HB.out)
                clear BK278 BK282 HB
                have BK278 := n0_
                have BK282 := n1_
                have HB := n2_
                clear n0_ n1_ n2_
                have p285 : 0 ≤ ((ji24) : Int) := of_decide_eq_true (by first | (with_reducible assumption) | assumption)
                have q285 : (ji24) < (l3.length : Int) := of_decide_eq_true (by first | (with_reducible assumption) | assumption)
                obtain ⟨ad285, e285, hx285_0⟩ := Kd.at_int HR3.out (ji24) p285 q285
                have hw285_0 := hx285_0
                cases e285
                replace hx285_0 := cB HB hx285_0
                replace p285 := eq_true p285
                replace q285 := eq_true q285
                have p286 : 0 ≤ (x14_1 : Int) := of_decide_eq_true (by first | (with_reducible assumption) | assumption)
                have q286 : x14_1 < (l3.length : Int) := of_decide_eq_true (by first | (with_reducible assumption) | assumption)
                obtain ⟨ad286, e286, hx286_0⟩ := Kd.at_int HR3.out x14_1 p286 q286
                have hw286_0 := hx286_0
                obtain rfl : ad285 = ad286 := (by injection e286)
                replace hx286_0 := cB HB hx286_0
                replace p286 := eq_true p286
                replace q286 := eq_true q286
                have p287 : 0 ≤ ((ji24) : Int) := of_decide_eq_true (by first | (with_reducible assumption) | assumption)
                have q287 : (ji24) < (l2.length : Int) := of_decide_eq_true (by first | (with_reducible assumption) | assumption)
                obtain ⟨ad287, e287, hx287_0⟩ := Kd.at_int HR2.out (ji24) p287 q287
                have hw287_0 := hx287_0
                obtain rfl : ad279 = ad287 := (by injection e287)
                replace hx287_0 := cB HB hx287_0
                replace p287 := eq_true p287
                replace q287 := eq_true q287
                refine start_ (n := 25) (S := fun w' => w'.cell? ⟨gb278, 0, none⟩ = some (.int .i64 a0_0) ∧ w'.cell? ⟨gb278, 1, none⟩ = some (.int .i64 a0_1) ∧ w'.cell? ⟨gb278, 2, none⟩ = some (.slice A0_2 l0_2.length c0_2) ∧ w'.cell? (ad285.add ((ji24)).toNat) = some (.int .i64 (rd l3 (ji24))) ∧ w'.cell? (ad285.add (x14_1).toNat) = some (.int .i64 (rd l3 x14_1)) ∧ w'.cell? (ad279.add ((ji24)).toNat) = some (.int .i64 (rd l2 (ji24)))) (ds := []) #[false, false, false, false, false, false, false, false, false, false, false, false, false, false, false, false, false, false, false, false, false, false, false, false, false] (by kernel_rfl) rfl rfl ⟨bc BK278 0, bc BK278 1, bc BK278 2, ((HB.out.cell (World.block_lt_of_cell? w _ hw285_0)).trans hw285_0), ((HB.out.cell (World.block_lt_of_cell? w _ hw286_0)).trans hw286_0), ((HB.out.cell (World.block_lt_of_cell? w _ hw287_0)).trans hw287_0)⟩ (fun hHeld => ?_); refine with_tabW course_possible.tab7 course_possible.bits7 (fun HT_ HW_ => ?_)
                generalize wc.drew = w34 at BK278 BK282 HB hx285_0 hx286_0 hx287_0 hHeld ⊢
                refine pS 0 (some 39) rfl rfl (any_of HT_.out (by kernel_rfl)) (fun _ _ _ h => h) (by rfl) (fun w' => by go_simp; with_reducible rfl) (by simp only [Act.put, List.setIfInBounds_toArray, List.set_cons_zero, List.set_cons_succ, i64_w]; rfl) ?_
                refine pS 1 (some 40) rfl rfl (any_of HT_.out (by kernel_rfl)) (fun _ _ _ h => h) (by rfl) (fun w' => by go_simp; with_reducible rfl) (by simp only [Act.put, List.setIfInBounds_toArray, List.set_cons_zero, List.set_cons_succ, i64_w]; rfl) ?_
                refine pS 2 (some 41) rfl rfl (any_of HT_.out (by kernel_rfl)) (fun _ _ _ h => h) (by rfl) (fun w' => by go_simp; with_reducible rfl) (by simp only [Act.put, List.setIfInBounds_toArray, List.set_cons_zero, List.set_cons_succ, i64_w]; rfl) ?_
                refine pS 3 (some 42) rfl rfl (any_of HT_.out (by kernel_rfl)) (fun _ _ _ h => h) (by rfl) (fun w' => by go_simp; with_reducible rfl) (by simp only [Act.put, List.setIfInBounds_toArray, List.set_cons_zero, List.set_cons_succ, i64_w]; rfl) ?_
                refine pS 4 (some 43) rfl rfl (any_of HT_.out (by kernel_rfl)) (fun _ _ _ h => h) (by rfl) (fun w' => by go_simp; with_reducible rfl) (by simp only [Act.put, List.setIfInBounds_toArray, List.set_cons_zero, List.set_cons_succ, i64_w]; rfl) ?_
                refine pS 5 (some 44) rfl rfl (any_of HT_.out (by kernel_rfl)) (fun _ _ _ h => h) (by rfl) (fun w' => by go_simp; with_reducible rfl) (by simp only [Act.put, List.setIfInBounds_toArray, List.set_cons_zero, List.set_cons_succ, i64_w]; rfl) ?_
                refine pS 6 (some 45) rfl rfl (any_of HT_.out (by kernel_rfl)) (fun _ _ _ h => h) (by rfl) (fun w' => by go_simp; with_reducible rfl) (by simp only [Act.put, List.setIfInBounds_toArray, List.set_cons_zero, List.set_cons_succ, i64_w]; rfl) ?_
                refine pS 8 (some 47) rfl rfl (any_of HT_.out (by kernel_rfl)) (fun _ _ _ h => h) (by rfl) (fun w' => by go_simp; with_reducible rfl) (by simp only [Act.put, List.setIfInBounds_toArray, List.set_cons_zero, List.set_cons_succ, i64_w]; rfl) ?_
                refine pS 9 (some 48) rfl rfl (any_of HT_.out (by kernel_rfl)) (fun _ _ _ h => h) (by rfl) (fun w' => by go_simp; with_reducible rfl) (by simp only [Act.put, List.setIfInBounds_toArray, List.set_cons_zero, List.set_cons_succ, i64_w]; rfl) ?_
                refine pS 10 (some 49) rfl rfl (any_of HT_.out (by kernel_rfl)) (fun _ _ _ h => h) (by rfl) (fun w' => by go_simp; with_reducible rfl) (by simp only [Act.put, List.setIfInBounds_toArray, List.set_cons_zero, List.set_cons_succ, i64_w]; rfl) ?_
                refine pS 12 (some 51) rfl rfl (any_of HT_.out (by kernel_rfl)) (fun _ _ _ h => h) (by rfl) (fun w' => by go_simp; with_reducible rfl) (by simp only [Act.put, List.setIfInBounds_toArray, List.set_cons_zero, List.set_cons_succ, i64_w]; rfl) ?_
                refine pS 14 (some 53) rfl rfl (any_of HT_.out (by kernel_rfl)) (fun _ _ _ h => h) (by rfl) (fun w' => by go_simp; with_reducible rfl) (by simp only [Act.put, List.setIfInBounds_toArray, List.set_cons_zero, List.set_cons_succ, i64_w]; rfl) ?_
                refine pS 15 (some 54) rfl rfl (any_of HT_.out (by kernel_rfl)) (fun _ _ _ h => h) (by rfl) (fun w' => by go_simp; with_reducible rfl) (by simp only [Act.put, List.setIfInBounds_toArray, List.set_cons_zero, List.set_cons_succ, i64_w]; rfl) ?_
                refine pS 16 (some 55) rfl rfl (any_of HT_.out (by kernel_rfl)) (fun _ _ _ h => h) (by rfl) (fun w' => by go_simp; with_reducible rfl) (by simp only [Act.put, List.setIfInBounds_toArray, List.set_cons_zero, List.set_cons_succ, i64_w]; rfl) ?_
                refine pS 17 (some 56) rfl rfl (any_of HT_.out (by kernel_rfl)) (fun _ _ _ h => h) (by rfl) (fun w' => by go_simp; with_reducible rfl) (by simp only [Act.put, List.setIfInBounds_toArray, List.set_cons_zero, List.set_cons_succ, i64_w]; rfl) ?_
                refine pS 18 (some 57) rfl rfl (any_of HT_.out (by kernel_rfl)) (fun _ _ _ h => h) (by rfl) (fun w' => by go_simp; with_reducible rfl) (by simp only [Act.put, List.setIfInBounds_toArray, List.set_cons_zero, List.set_cons_succ, i64_w]; rfl) ?_
                refine tS 7 (some 46) rfl rfl (take_ofW HT_.out HW_.out (by kernel_rfl)) (fun _ _ _ h => h) (by rfl) (by rintro w' ⟨s0, s1, s2, s3, s4, s5⟩; go_simp; with_reducible rfl) hHeld (by simp only [Act.put, List.setIfInBounds_toArray, List.set_cons_zero, List.set_cons_succ, i64_w]; rfl) ?_
                refine tS 11 (some 50) rfl rfl (take_ofW HT_.out HW_.out (by kernel_rfl)) (fun _ _ _ h => h) (by rfl) (by rintro w' ⟨s0, s1, s2, s3, s4, s5⟩; go_simp; with_reducible rfl) hHeld (by simp only [Act.put, List.setIfInBounds_toArray, List.set_cons_zero, List.set_cons_succ, i64_w]; rfl) ?_
                refine tS 13 (some 52) rfl rfl (take_ofW HT_.out HW_.out (by kernel_rfl)) (fun _ _ _ h => h) (by rfl) (by rintro w' ⟨s0, s1, s2, s3, s4, s5⟩; go_simp; with_reducible rfl) hHeld (by simp only [Act.put, List.setIfInBounds_toArray, List.set_cons_zero, List.set_cons_succ, i64_w]; rfl) ?_
                refine tS 19 (some 58) rfl rfl (take_ofW HT_.out HW_.out (by kernel_rfl)) (fun _ _ _ h => h) (by rfl) (by rintro w' ⟨s0, s1, s2, s3, s4, s5⟩; go_simp; with_reducible rfl) hHeld (by simp only [Act.put, List.setIfInBounds_toArray, List.set_cons_zero, List.set_cons_succ, i64_w]; rfl) ?_
                refine pS 20 (some 59) rfl rfl (any_of HT_.out (by kernel_rfl)) (fun _ _ _ h => h) (by rfl) (fun w' => by go_simp; with_reducible rfl) (by simp only [Act.put, List.setIfInBounds_toArray, List.set_cons_zero, List.set_cons_succ, i64_w]; rfl) ?_
                refine pS 21 (some 60) rfl rfl (any_of HT_.out (by kernel_rfl)) (fun _ _ _ h => h) (by rfl) (fun w' => by go_simp; with_reducible rfl) (by simp only [Act.put, List.setIfInBounds_toArray, List.set_cons_zero, List.set_cons_succ, i64_w]; rfl) ?_
                refine one_ (i := 22) (N := some 61) #[true, true, true, true, true, true, true, true, true, true, true, true, true, true, true, true, true, true, true, true, true, true, true, false, false] rfl rfl (one_of HT_.out (by kernel_rfl)) (by decide) (fun K hK => ?_)
                refine goes_ Tryd.func132 (by kernel_rfl) rfl #[.int .i64 (rd l3 (ji24)), .int .i64 (rd l3 x14_1), .int .i64 (wrap64 (a0_1 * (wrap64 ((rd l2 x14_1) - (rd l2 (ji24))))))] (by rfl) rfl rfl (by (try simp only [List.map_toArray, List.map_cons, List.map_nil]); first | done | (simp only [hji24]; rfl) | rfl | (simp only [List.length_drop, List.length_take]; rfl)) ?_
                with_reducible refine (course_within.calls (rd l3 (ji24)) (rd l3 x14_1) (wrap64 (a0_1 * (wrap64 ((rd l2 x14_1) - (rd l2 (ji24)))))) false _ A30.out).mono ?_
                rintro e w35 ⟨rfl, hb⟩
                refine ⟨_, rfl, ?_⟩
                replace BK278 := kB gb278 hb
                replace BK282 := kB gb282 hb
                replace HB := bS w hb
                (try clear hb)
                refine hK.out _ _ ⟨bc BK278 0, bc BK278 1, bc BK278 2, ((HB.out.cell (World.block_lt_of_cell? w _ hw285_0)).trans hw285_0), ((HB.out.cell (World.block_lt_of_cell? w _ hw286_0)).trans hw286_0), ((HB.out.cell (World.block_lt_of_cell? w _ hw287_0)).trans hw287_0)⟩ (fun hHeld => ?_)
                clear hK K
                refine norm_ (a' := ?_) ?_ ?_
                rotate_left
                ·
                 show Act.put _ (some 61) _ = _
                 simp only [Act.put, List.setIfInBounds_toArray, List.set_cons_zero, List.set_cons_succ, i64_w]
                 rfl
                refine pS 23 (some 62) rfl rfl (any_of HT_.out (by kernel_rfl)) (fun _ _ _ h => h) (by rfl) (fun w' => by go_simp; with_reducible rfl) (by simp only [Act.put, List.setIfInBounds_toArray, List.set_cons_zero, List.set_cons_succ, i64_w]; rfl) ?_
                refine pS 24 (some 63) rfl rfl (any_of HT_.out (by kernel_rfl)) (fun _ _ _ h => h) (by rfl) (fun w' => by go_simp; with_reducible rfl) (by simp only [Act.put, List.setIfInBounds_toArray, List.set_cons_zero, List.set_cons_succ, i64_w]; rfl) ?_
                refine done_ (done_of HT_.out (by kernel_rfl)) ?_
                try go_wp2
                go_ret
                exact ⟨by first | rfl | (simp [errW_none, errW_some] <;> rfl) | (simp only [← hji24]; first | rfl | (simp [errW_none, errW_some] <;> rfl)) | (simp [*, errW_none, errW_some] <;> rfl), bw w⟩
              ·
               rw [if_neg c29] at H
               exact absurd H (by simp)
             ·
              rw [if_neg c28] at H
              exact absurd H (by simp)
            ·
             rw [if_neg c27] at H
             exact absurd H (by simp)
           ·
            rw [if_neg c26] at H
            exact absurd H (by simp)
          ·
           rw [if_neg c25] at H
           exact absurd H (by simp)
         ·
          rw [if_neg c23] at H
          have c23b0 : decide (0 < x14_1) = false := decide_eq_false c23
          clear c23
          have H' := Aside0.mk H
          clear H
          try go_wp2
          have n0_ := Bk.mk (blk_drew BK278.out)
          have n1_ := Bk.mk (blk_drew BK282.out)
          have n2_ := Bw.mk (below_drew1 HB.out)
          clear BK278 BK282 HB
          have BK278 := n0_
          have BK282 := n1_
          have HB := n2_
          clear n0_ n1_ n2_
          refine start_ (n := 25) (S := fun w' => True) (ds := []) #[false, false, false, false, false, false, false, false, false, false, false, false, false, false, false, false, false, false, false, false, false, false, false, false, false] (by kernel_rfl) rfl rfl trivial (fun hHeld => ?_); refine with_tabW course_possible.tab7 course_possible.bits7 (fun HT_ HW_ => ?_)
          generalize wc.drew = w36 at BK278 BK282 HB hHeld ⊢
          refine pS 0 (some 39) rfl rfl (any_of HT_.out (by kernel_rfl)) (fun _ _ _ h => h) (by rfl) (fun w' => by go_simp; with_reducible rfl) (by simp only [Act.put, List.setIfInBounds_toArray, List.set_cons_zero, List.set_cons_succ, i64_w]; rfl) ?_
          refine pS 1 (some 40) rfl rfl (any_of HT_.out (by kernel_rfl)) (fun _ _ _ h => h) (by rfl) (fun w' => by go_simp; with_reducible rfl) (by simp only [Act.put, List.setIfInBounds_toArray, List.set_cons_zero, List.set_cons_succ, i64_w]; rfl) ?_
          refine pS 2 (some 41) rfl rfl (any_of HT_.out (by kernel_rfl)) (fun _ _ _ h => h) (by rfl) (fun w' => by go_simp; with_reducible rfl) (by simp only [Act.put, List.setIfInBounds_toArray, List.set_cons_zero, List.set_cons_succ, i64_w]; rfl) ?_
          refine pU 3 (some 42) rfl rfl (any_of HT_.out (by kernel_rfl)) (fun _ _ _ h => h) (by rfl) (by simp only [Act.put, List.setIfInBounds_toArray, List.set_cons_zero, List.set_cons_succ, i64_w]; rfl) ?_
          refine pU 4 (some 43) rfl rfl (any_of HT_.out (by kernel_rfl)) (fun _ _ _ h => h) (by rfl) (by simp only [Act.put, List.setIfInBounds_toArray, List.set_cons_zero, List.set_cons_succ, i64_w]; rfl) ?_
          refine pU 5 (some 44) rfl rfl (any_of HT_.out (by kernel_rfl)) (fun _ _ _ h => h) (by rfl) (by simp only [Act.put, List.setIfInBounds_toArray, List.set_cons_zero, List.set_cons_succ, i64_w]; rfl) ?_
          refine pU 6 (some 45) rfl rfl (any_of HT_.out (by kernel_rfl)) (fun _ _ _ h => h) (by rfl) (by simp only [Act.put, List.setIfInBounds_toArray, List.set_cons_zero, List.set_cons_succ, i64_w]; rfl) ?_
          refine pU 7 (some 46) rfl rfl (any_of HT_.out (by kernel_rfl)) (fun _ _ _ h => h) (by rfl) (by simp only [Act.put, List.setIfInBounds_toArray, List.set_cons_zero, List.set_cons_succ, i64_w]; rfl) ?_
          refine pU 8 (some 47) rfl rfl (any_of HT_.out (by kernel_rfl)) (fun _ _ _ h => h) (by rfl) (by simp only [Act.put, List.setIfInBounds_toArray, List.set_cons_zero, List.set_cons_succ, i64_w]; rfl) ?_
          refine pU 9 (some 48) rfl rfl (any_of HT_.out (by kernel_rfl)) (fun _ _ _ h => h) (by rfl) (by simp only [Act.put, List.setIfInBounds_toArray, List.set_cons_zero, List.set_cons_succ, i64_w]; rfl) ?_
          refine pU 10 (some 49) rfl rfl (any_of HT_.out (by kernel_rfl)) (fun _ _ _ h => h) (by rfl) (by simp only [Act.put, List.setIfInBounds_toArray, List.set_cons_zero, List.set_cons_succ, i64_w]; rfl) ?_
          refine pU 11 (some 50) rfl rfl (any_of HT_.out (by kernel_rfl)) (fun _ _ _ h => h) (by rfl) (by simp only [Act.put, List.setIfInBounds_toArray, List.set_cons_zero, List.set_cons_succ, i64_w]; rfl) ?_
          refine pU 12 (some 51) rfl rfl (any_of HT_.out (by kernel_rfl)) (fun _ _ _ h => h) (by rfl) (by simp only [Act.put, List.setIfInBounds_toArray, List.set_cons_zero, List.set_cons_succ, i64_w]; rfl) ?_
          refine pU 13 (some 52) rfl rfl (any_of HT_.out (by kernel_rfl)) (fun _ _ _ h => h) (by rfl) (by simp only [Act.put, List.setIfInBounds_toArray, List.set_cons_zero, List.set_cons_succ, i64_w]; rfl) ?_
          refine pU 14 (some 53) rfl rfl (any_of HT_.out (by kernel_rfl)) (fun _ _ _ h => h) (by rfl) (by simp only [Act.put, List.setIfInBounds_toArray, List.set_cons_zero, List.set_cons_succ, i64_w]; rfl) ?_
          refine pU 15 (some 54) rfl rfl (any_of HT_.out (by kernel_rfl)) (fun _ _ _ h => h) (by rfl) (by simp only [Act.put, List.setIfInBounds_toArray, List.set_cons_zero, List.set_cons_succ, i64_w]; rfl) ?_
          refine pU 16 (some 55) rfl rfl (any_of HT_.out (by kernel_rfl)) (fun _ _ _ h => h) (by rfl) (by simp only [Act.put, List.setIfInBounds_toArray, List.set_cons_zero, List.set_cons_succ, i64_w]; rfl) ?_
          refine pU 17 (some 56) rfl rfl (any_of HT_.out (by kernel_rfl)) (fun _ _ _ h => h) (by rfl) (by simp only [Act.put, List.setIfInBounds_toArray, List.set_cons_zero, List.set_cons_succ, i64_w]; rfl) ?_
          refine pU 18 (some 57) rfl rfl (any_of HT_.out (by kernel_rfl)) (fun _ _ _ h => h) (by rfl) (by simp only [Act.put, List.setIfInBounds_toArray, List.set_cons_zero, List.set_cons_succ, i64_w]; rfl) ?_
          refine pU 19 (some 58) rfl rfl (any_of HT_.out (by kernel_rfl)) (fun _ _ _ h => h) (by rfl) (by simp only [Act.put, List.setIfInBounds_toArray, List.set_cons_zero, List.set_cons_succ, i64_w]; rfl) ?_
          refine pU 20 (some 59) rfl rfl (any_of HT_.out (by kernel_rfl)) (fun _ _ _ h => h) (by rfl) (by simp only [Act.put, List.setIfInBounds_toArray, List.set_cons_zero, List.set_cons_succ, i64_w]; rfl) ?_
          refine pU 21 (some 60) rfl rfl (any_of HT_.out (by kernel_rfl)) (fun _ _ _ h => h) (by rfl) (by simp only [Act.put, List.setIfInBounds_toArray, List.set_cons_zero, List.set_cons_succ, i64_w]; rfl) ?_
          refine pU 22 (some 61) rfl rfl (any_of HT_.out (by kernel_rfl)) (fun _ _ _ h => h) (by rfl) (by simp only [Act.put, List.setIfInBounds_toArray, List.set_cons_zero, List.set_cons_succ, i64_w]; rfl) ?_
          refine pU 23 (some 62) rfl rfl (any_of HT_.out (by kernel_rfl)) (fun _ _ _ h => h) (by rfl) (by simp only [Act.put, List.setIfInBounds_toArray, List.set_cons_zero, List.set_cons_succ, i64_w]; rfl) ?_
          refine pS 24 (some 63) rfl rfl (any_of HT_.out (by kernel_rfl)) (fun _ _ _ h => h) (by rfl) (fun w' => by go_simp; with_reducible rfl) (by simp only [Act.put, List.setIfInBounds_toArray, List.set_cons_zero, List.set_cons_succ, i64_w]; rfl) ?_
          refine done_ (done_of HT_.out (by kernel_rfl)) ?_
          try go_wp2
          go_roundg kj9
          case measure => have := HK1.out; have := HJ9.out; omega
          case rel => exact ⟨(wrap64 (x14_1 + 1)), (by first | rfl | (simp; done) | (simp [*]; done)), H', ⟨by have := HK1.out; have := HJ9.out; omega⟩, inferInstance, inferInstance⟩
     ·
      rw [if_neg c8] at H
      exact absurd H (by simp)
    ·
     rw [if_neg c7] at H
     exact absurd H (by simp)
   ·
    rw [if_neg c6] at H
    have c6b0 : decide (x14_1 < (l2.length : Int)) = false := decide_eq_false c6
    clear c6
    obtain rfl := Option.some.inj H
    go_wp2
    go_ret
    exact ⟨by first | rfl | (simp [errW_none, errW_some] <;> rfl) | (simp [*, errW_none, errW_some] <;> rfl), bw w⟩
def course_History.f (k : Nat) (a0_0 : Int) (a0_1 : Int) (l0_2 : List (S26)) (a1 : Int) (l2 : List Int) (l3 : List Int) : Option (Bool × Int) := (course_ask.f k a0_0 a0_1 l0_2 (([a1] : List Int))).bind fun t675 => (if t675 = 0 then (if (l2.length : Int) = (l3.length : Int) then ((course_rising.f k l2).bind fun t676 => (if t676 = true then ((course_possible.f k a0_0 a0_1 l0_2 a1 l2 l3).bind fun t677 => (some (t677, 0))) else (some (false, 1)))) else (some (false, 1))) else (some (false, t675)))
set_option maxHeartbeats 8000000 in
set_option maxRecDepth 100000 in
theorem course_History.calls (k : Nat) (a0_0 : Int) (a0_1 : Int) (A0_2 : Option Addr) (c0_2 : Nat) (l0_2 : List (S26)) (a1 : Int) (A2 : Option Addr) (c2 : Nat) (l2 : List Int) (A3 : Option Addr) (c3 : Nat) (l3 : List Int) (r1 : Bool) (r2 : Int) (w : World) (hr0_2 : Kd.C k26 w A0_2 l0_2.length l0_2) (hc0_2 : l0_2.length ≤ c0_2) (hr2 : Kd.C (Kd.int .i64) w A2 l2.length l2) (hc2 : l2.length ≤ c2) (hr3 : Kd.C (Kd.int .i64) w A3 l3.length l3) (hc3 : l3.length ≤ c3) (h : course_History.f k a0_0 a0_1 l0_2 a1 l2 l3 = some (r1, r2)) :
  Calls Tryd.prog 33 #[.agg #[.int .i64 a0_0, .int .i64 a0_1, .slice A0_2 l0_2.length c0_2], .int .i64 a1, .slice A2 l2.length c2, .slice A3 l3.length c3] w fun e w' => e = .returned (.tuple #[.bool r1, .int .i64 r2]) ∧ Below w.heap.size w w' := by
 have hu24 := Tryd.underlying24
 have HR0_2 := Aside0.mk (hr0_2)
 have HC0_2 := Aside0.mk (hc0_2)
 clear hr0_2 hc0_2
 have HR2 := Aside0.mk (hr2)
 have HC2 := Aside0.mk (hc2)
 clear hr2 hc2
 have HR3 := Aside0.mk (hr3)
 have HC3 := Aside0.mk (hc3)
 clear hr3 hc3
 have HB := Bw.mk (Below.refl w.heap.size w)
 have H : ((course_ask.f k a0_0 a0_1 l0_2 (([a1] : List Int))).bind fun t675 => (if t675 = 0 then (if (l2.length : Int) = (l3.length : Int) then ((course_rising.f k l2).bind fun t676 => (if t676 = true then ((course_possible.f k a0_0 a0_1 l0_2 a1 l2 l3).bind fun t677 => (some (t677, 0))) else (some (false, 1)))) else (some (false, 1))) else (some (false, t675)))) = some (r1, r2) := h
 clear h
 obtain ⟨y672, hy672⟩ : ∃ y_ : List Int, y_ = (([a1] : List Int)) := ⟨_, rfl⟩
 replace H : ((course_ask.f k a0_0 a0_1 l0_2 y672).bind fun t675 => (if t675 = 0 then (if (l2.length : Int) = (l3.length : Int) then ((course_rising.f k l2).bind fun t676 => (if t676 = true then ((course_possible.f k a0_0 a0_1 l0_2 a1 l2 l3).bind fun t677 => (some (t677, 0))) else (some (false, 1)))) else (some (false, 1))) else (some (false, t675)))) = some (r1, r2) := by first | (rw [hy672]; with_reducible exact H) | (have H2_ := (Option.bind_some _ _).symm.trans H; rw [hy672]; with_reducible exact H2_) | (have H2_ := (Option.bind_some _ _).symm.trans H; with_reducible exact H2_) | with_reducible exact H | (rw [hy672]; exact H) | exact H
 have Ny672 := Aside0.mk (hy672)
 clear hy672
 replace H := Option.bind_eq_some_iff.mp H
 obtain ⟨t675, A50, H⟩ := H
 have A5 := Aside0.mk (A50)
 clear A50
 by_cases c6 : t675 = 0
 ·
  rw [if_pos c6] at H
  have c6b0 : (t675 == 0) = true := beq_iff_eq.mpr c6
  have c6b1 : (t675 != 0) = false := bne_eq_false_iff_eq.mpr c6
  clear c6
  by_cases c7 : (l2.length : Int) = (l3.length : Int)
  ·
   rw [if_pos c7] at H
   have c7b0 : ((l2.length : Int) == (l3.length : Int)) = true := beq_iff_eq.mpr c7
   have c7b1 : ((l2.length : Int) != (l3.length : Int)) = false := bne_eq_false_iff_eq.mpr c7
   have c7b2 : (l2.length == l3.length) = true := by first | simpa using c7 | (simp at c7 ⊢; omega)
   clear c7
   replace H := Option.bind_eq_some_iff.mp H
   obtain ⟨t676, A80, H⟩ := H
   have A8 := Aside0.mk (A80)
   clear A80
   by_cases c9 : t676 = true
   ·
    subst c9
    rw [if_pos rfl] at H
    replace H := Option.bind_eq_some_iff.mp H
    obtain ⟨t677, A100, H⟩ := H
    have A10 := Aside0.mk (A100)
    clear A100
    simp only [Option.some.injEq, Prod.mk.injEq] at H
    obtain ⟨rfl, rfl⟩ := H
    go_enter Tryd.func33, Tryd.ntmps33
    go_wp2_with (first | ((with_reducible refine gate_dst (N := 4) rfl ?_); refine bxE 4 24 #[.int .i64 a0_0, .int .i64 a0_1, .slice A0_2 l0_2.length c0_2] (by rfl) (by rfl) (by first | (go_simp; done) | (go_simp; rfl)) ?_; intro gb671 hg w11 hbox hb; have BK671 := Bk.mk (hbox); have GE671 := eB w hg; replace HB := bS w hb; clear hb hbox hg; obtain ⟨hcz12_0, hcz12_1, hcz12_2, hfz12_0, hfz12_1, hfz12_2⟩ := cz3 BK671) | ((with_reducible refine gate_dst (N := 13) rfl ?_); refine Kd.R_lit (Kd.int .i64) _ 3 ?hg (N := 13) ?hd (xs := ([a1] : List Int)) (inner := [.int .i64 a1]) (ok := fun _ => True) (okp := fun _ => True) ?hr ?hp (fun _ hk => hk) trivial (Below.refl _ _) (Nat.le_refl _) (by simp) ?_; (case hd => rfl); (case hg => rfl); (case hr => first | (go_simp; done) | (go_simp; rfl)); (case hp => exact (Reps.one (show Kd.M (Kd.int .i64) _ _ _ a1 [.int .i64 a1] from rfl) (Reps.none _ _))); intro v673 w13 ho14 hb hg_ hnew_; clear hg_ hnew_; (first | rw [← Ny672.out] at ho14 | (simp only [Int.reduceToNat] at ho14; rw [← Ny672.out] at ho14)); have n0_ := Aside0.mk (Kd.R_lower ho14 (bz w)); replace BK671 := kB gb671 hb; replace HB := bS w hb; have HO674 := n0_; clear n0_ hb ho14; obtain ⟨Ao15, co15, eo15⟩ := Kd.R_slice HO674.out; subst eo15) | ((with_reducible refine gate_callee (f := 76) rfl ?_); refine goesLM (some 14) rfl rfl Tryd.func76 (by kernel_rfl) rfl #[.agg #[.int .i64 a0_0, .int .i64 a0_1, .slice A0_2 l0_2.length c0_2], .slice Ao15 y672.length co15] rfl (by rfl) ?_; (with_reducible refine (course_ask.calls k a0_0 a0_1 _ _ l0_2 _ _ y672 t675 _ ?side1 ?side2 ?side3 ?side4 A5.out).mono ?_); (case side1 => exact cP (Kd.C_below HR0_2.out HB.out)); (case side2 => exact HC0_2.out); (case side3 => exact cP (Kd.R_reads' HO674.out).2.2); (case side4 => exact (Kd.R_reads' HO674.out).2.1); rintro e w16 ⟨rfl, hb⟩; refine ⟨_, rfl, ?_⟩; replace HO674 := rB HO674 hb; replace BK671 := kB gb671 hb; replace HB := bS w hb; (try clear hb)) | (go_at_call 97; (with_reducible refine (course_rising.calls k _ _ l2 true _ ?side1 ?side2 A8.out).mono ?_); (case side1 => exact cP (Kd.C_below HR2.out HB.out)); (case side2 => exact HC2.out); rintro e w' ⟨rfl, ⟨nd, rfl⟩⟩; obtain ⟨hcz17_0, hcz17_1, hcz17_2, hfz17_0, hfz17_1, hfz17_2⟩ := cz3 BK671) | ((with_reducible refine gate_callee (f := 98) rfl ?_); refine goesLM (some 32) rfl rfl Tryd.func98 (by kernel_rfl) rfl #[.agg #[.int .i64 a0_0, .int .i64 a0_1, .slice A0_2 l0_2.length c0_2], .int .i64 a1, .slice A2 l2.length c2, .slice A3 l3.length c3] rfl (by rfl) ?_; (with_reducible refine (course_possible.calls k a0_0 a0_1 _ _ l0_2 a1 _ _ l2 _ _ l3 t677 _ ?side1 ?side2 ?side3 ?side4 ?side5 ?side6 A10.out).mono ?_); (case side1 => exact (Kd.C_below HR0_2.out (bw w))); (case side2 => exact HC0_2.out); (case side3 => exact (Kd.C_below HR2.out (bw w))); (case side4 => exact HC2.out); (case side5 => exact (Kd.C_below HR3.out (bw w))); (case side6 => exact HC3.out); rintro e w18 ⟨rfl, hb⟩; refine ⟨_, rfl, ?_⟩; replace HO674 := rB HO674 hb; replace BK671 := kB gb671 hb; replace HB := bS w hb; (try clear hb)))
    go_ret2
    exact ⟨by first | rfl | (simp [errW_none, errW_some] <;> rfl) | (simp [*, errW_none, errW_some] <;> rfl), bw w⟩
   ·
    replace c9 := Bool.eq_false_iff.mpr c9
    subst c9
    rw [if_neg (show ¬ (false = true) by decide)] at H
    simp only [Option.some.injEq, Prod.mk.injEq] at H
    obtain ⟨rfl, rfl⟩ := H
    go_enter Tryd.func33, Tryd.ntmps33
    go_wp2_with (first | ((with_reducible refine gate_dst (N := 4) rfl ?_); refine bxE 4 24 #[.int .i64 a0_0, .int .i64 a0_1, .slice A0_2 l0_2.length c0_2] (by rfl) (by rfl) (by first | (go_simp; done) | (go_simp; rfl)) ?_; intro gb671 hg w19 hbox hb; have BK671 := Bk.mk (hbox); have GE671 := eB w hg; replace HB := bS w hb; clear hb hbox hg; obtain ⟨hcz20_0, hcz20_1, hcz20_2, hfz20_0, hfz20_1, hfz20_2⟩ := cz3 BK671) | ((with_reducible refine gate_dst (N := 13) rfl ?_); refine Kd.R_lit (Kd.int .i64) _ 3 ?hg (N := 13) ?hd (xs := ([a1] : List Int)) (inner := [.int .i64 a1]) (ok := fun _ => True) (okp := fun _ => True) ?hr ?hp (fun _ hk => hk) trivial (Below.refl _ _) (Nat.le_refl _) (by simp) ?_; (case hd => rfl); (case hg => rfl); (case hr => first | (go_simp; done) | (go_simp; rfl)); (case hp => exact (Reps.one (show Kd.M (Kd.int .i64) _ _ _ a1 [.int .i64 a1] from rfl) (Reps.none _ _))); intro v673 w21 ho22 hb hg_ hnew_; clear hg_ hnew_; (first | rw [← Ny672.out] at ho22 | (simp only [Int.reduceToNat] at ho22; rw [← Ny672.out] at ho22)); have n0_ := Aside0.mk (Kd.R_lower ho22 (bz w)); replace BK671 := kB gb671 hb; replace HB := bS w hb; have HO674 := n0_; clear n0_ hb ho22; obtain ⟨Ao23, co23, eo23⟩ := Kd.R_slice HO674.out; subst eo23) | ((with_reducible refine gate_callee (f := 76) rfl ?_); refine goesLM (some 14) rfl rfl Tryd.func76 (by kernel_rfl) rfl #[.agg #[.int .i64 a0_0, .int .i64 a0_1, .slice A0_2 l0_2.length c0_2], .slice Ao23 y672.length co23] rfl (by rfl) ?_; (with_reducible refine (course_ask.calls k a0_0 a0_1 _ _ l0_2 _ _ y672 t675 _ ?side1 ?side2 ?side3 ?side4 A5.out).mono ?_); (case side1 => exact cP (Kd.C_below HR0_2.out HB.out)); (case side2 => exact HC0_2.out); (case side3 => exact cP (Kd.R_reads' HO674.out).2.2); (case side4 => exact (Kd.R_reads' HO674.out).2.1); rintro e w24 ⟨rfl, hb⟩; refine ⟨_, rfl, ?_⟩; replace HO674 := rB HO674 hb; replace BK671 := kB gb671 hb; replace HB := bS w hb; (try clear hb)) | (go_at_call 97; (with_reducible refine (course_rising.calls k _ _ l2 false _ ?side1 ?side2 A8.out).mono ?_); (case side1 => exact cP (Kd.C_below HR2.out HB.out)); (case side2 => exact HC2.out); rintro e w' ⟨rfl, ⟨nd, rfl⟩⟩))
    go_ret2
    exact ⟨by first | rfl | (simp [errW_none, errW_some] <;> rfl) | (simp [*, errW_none, errW_some] <;> rfl), bw w⟩
  ·
   rw [if_neg c7] at H
   have c7b0 : ((l2.length : Int) == (l3.length : Int)) = false := beq_eq_false_iff_ne.mpr c7
   have c7b1 : ((l2.length : Int) != (l3.length : Int)) = true := bne_iff_ne.mpr c7
   have c7b2 : (l2.length == l3.length) = false := by first | simpa using c7 | (simp at c7 ⊢; omega)
   simp only [Option.some.injEq, Prod.mk.injEq] at H
   obtain ⟨rfl, rfl⟩ := H
   go_enter Tryd.func33, Tryd.ntmps33
   go_wp2_with (first | ((with_reducible refine gate_dst (N := 4) rfl ?_); refine bxE 4 24 #[.int .i64 a0_0, .int .i64 a0_1, .slice A0_2 l0_2.length c0_2] (by rfl) (by rfl) (by first | (go_simp; done) | (go_simp; rfl)) ?_; intro gb671 hg w25 hbox hb; have BK671 := Bk.mk (hbox); have GE671 := eB w hg; replace HB := bS w hb; clear hb hbox hg; obtain ⟨hcz26_0, hcz26_1, hcz26_2, hfz26_0, hfz26_1, hfz26_2⟩ := cz3 BK671) | ((with_reducible refine gate_dst (N := 13) rfl ?_); refine Kd.R_lit (Kd.int .i64) _ 3 ?hg (N := 13) ?hd (xs := ([a1] : List Int)) (inner := [.int .i64 a1]) (ok := fun _ => True) (okp := fun _ => True) ?hr ?hp (fun _ hk => hk) trivial (Below.refl _ _) (Nat.le_refl _) (by simp) ?_; (case hd => rfl); (case hg => rfl); (case hr => first | (go_simp; done) | (go_simp; rfl)); (case hp => exact (Reps.one (show Kd.M (Kd.int .i64) _ _ _ a1 [.int .i64 a1] from rfl) (Reps.none _ _))); intro v673 w27 ho28 hb hg_ hnew_; clear hg_ hnew_; (first | rw [← Ny672.out] at ho28 | (simp only [Int.reduceToNat] at ho28; rw [← Ny672.out] at ho28)); have n0_ := Aside0.mk (Kd.R_lower ho28 (bz w)); replace BK671 := kB gb671 hb; replace HB := bS w hb; have HO674 := n0_; clear n0_ hb ho28; obtain ⟨Ao29, co29, eo29⟩ := Kd.R_slice HO674.out; subst eo29) | ((with_reducible refine gate_callee (f := 76) rfl ?_); refine goesLM (some 14) rfl rfl Tryd.func76 (by kernel_rfl) rfl #[.agg #[.int .i64 a0_0, .int .i64 a0_1, .slice A0_2 l0_2.length c0_2], .slice Ao29 y672.length co29] rfl (by rfl) ?_; (with_reducible refine (course_ask.calls k a0_0 a0_1 _ _ l0_2 _ _ y672 t675 _ ?side1 ?side2 ?side3 ?side4 A5.out).mono ?_); (case side1 => exact cP (Kd.C_below HR0_2.out HB.out)); (case side2 => exact HC0_2.out); (case side3 => exact cP (Kd.R_reads' HO674.out).2.2); (case side4 => exact (Kd.R_reads' HO674.out).2.1); rintro e w30 ⟨rfl, hb⟩; refine ⟨_, rfl, ?_⟩; replace HO674 := rB HO674 hb; replace BK671 := kB gb671 hb; replace HB := bS w hb; (try clear hb)))
   go_ret2
   exact ⟨by first | rfl | (simp [errW_none, errW_some] <;> rfl) | (simp [*, errW_none, errW_some] <;> rfl), bw w⟩
 ·
  rw [if_neg c6] at H
  have c6b0 : (t675 == 0) = false := beq_eq_false_iff_ne.mpr c6
  have c6b1 : (t675 != 0) = true := bne_iff_ne.mpr c6
  simp only [Option.some.injEq, Prod.mk.injEq] at H
  obtain ⟨rfl, rfl⟩ := H
  go_enter Tryd.func33, Tryd.ntmps33
  go_wp2_with (first | ((with_reducible refine gate_dst (N := 4) rfl ?_); refine bxE 4 24 #[.int .i64 a0_0, .int .i64 a0_1, .slice A0_2 l0_2.length c0_2] (by rfl) (by rfl) (by first | (go_simp; done) | (go_simp; rfl)) ?_; intro gb671 hg w31 hbox hb; have BK671 := Bk.mk (hbox); have GE671 := eB w hg; replace HB := bS w hb; clear hb hbox hg; obtain ⟨hcz32_0, hcz32_1, hcz32_2, hfz32_0, hfz32_1, hfz32_2⟩ := cz3 BK671) | ((with_reducible refine gate_dst (N := 13) rfl ?_); refine Kd.R_lit (Kd.int .i64) _ 3 ?hg (N := 13) ?hd (xs := ([a1] : List Int)) (inner := [.int .i64 a1]) (ok := fun _ => True) (okp := fun _ => True) ?hr ?hp (fun _ hk => hk) trivial (Below.refl _ _) (Nat.le_refl _) (by simp) ?_; (case hd => rfl); (case hg => rfl); (case hr => first | (go_simp; done) | (go_simp; rfl)); (case hp => exact (Reps.one (show Kd.M (Kd.int .i64) _ _ _ a1 [.int .i64 a1] from rfl) (Reps.none _ _))); intro v673 w33 ho34 hb hg_ hnew_; clear hg_ hnew_; (first | rw [← Ny672.out] at ho34 | (simp only [Int.reduceToNat] at ho34; rw [← Ny672.out] at ho34)); have n0_ := Aside0.mk (Kd.R_lower ho34 (bz w)); replace BK671 := kB gb671 hb; replace HB := bS w hb; have HO674 := n0_; clear n0_ hb ho34; obtain ⟨Ao35, co35, eo35⟩ := Kd.R_slice HO674.out; subst eo35) | ((with_reducible refine gate_callee (f := 76) rfl ?_); refine goesLM (some 14) rfl rfl Tryd.func76 (by kernel_rfl) rfl #[.agg #[.int .i64 a0_0, .int .i64 a0_1, .slice A0_2 l0_2.length c0_2], .slice Ao35 y672.length co35] rfl (by rfl) ?_; (with_reducible refine (course_ask.calls k a0_0 a0_1 _ _ l0_2 _ _ y672 t675 _ ?side1 ?side2 ?side3 ?side4 A5.out).mono ?_); (case side1 => exact cP (Kd.C_below HR0_2.out HB.out)); (case side2 => exact HC0_2.out); (case side3 => exact cP (Kd.R_reads' HO674.out).2.2); (case side4 => exact (Kd.R_reads' HO674.out).2.1); rintro e w36 ⟨rfl, hb⟩; refine ⟨_, rfl, ?_⟩; replace HO674 := rB HO674 hb; replace BK671 := kB gb671 hb; replace HB := bS w hb; (try clear hb)))
  go_ret2
  exact ⟨by first | rfl | (simp [errW_none, errW_some] <;> rfl) | (simp [*, errW_none, errW_some] <;> rfl), bw w⟩
mutual
def course_Extend.j0 : Nat → Int → List Int → List Int → List Int → Bool → Int → Int → List (S26) → Option (List Int × Bool × Int)
 | 0, _, _, _, _, _, _, _, _ => none
 | k + 1, x1, x2, x3, x4, x41, x290000, x290001, x290002 => if x41 = true then (some (([] : List Int), false, 1)) else ((course_possible.f k x290000 x290001 x290002 x1 x2 x3).bind fun t296 => (if t296 = true then (course_Extend.l0 k x1 x2 x3 ([] : List Int) x4 (x4.length : Int) 0 x290000 x290001 x290002) else (some (([] : List Int), false, 0))))
def course_Extend.l0 : Nat → Int → List Int → List Int → List Int → List Int → Int → Int → Int → Int → List (S26) → Option (List Int × Bool × Int)
 | 0, _, _, _, _, _, _, _, _, _, _ => none
 | k + 1, x1, x2, x3, x14, x48, x49, x50, x290000, x290001, x290002 => if x50 < x49 then (if 0 ≤ x50 then (if x50 < (x48.length : Int) then ((course_drift.f k x290000 x290001 x290002 (rd x48 x50) x1).bind fun bt298 => (course_Extend.l1 k x1 x2 x3 x14 (rd x48 x50) bt298.2 x48 x49 x50 x2 (x2.length : Int) 0 x290000 x290001 x290002)) else (none)) else (none)) else (some (x14, true, 0))
def course_Extend.l1 : Nat → Int → List Int → List Int → List Int → Int → Int → List Int → Int → Int → List Int → Int → Int → Int → Int → List (S26) → Option (List Int × Bool × Int)
 | 0, _, _, _, _, _, _, _, _, _, _, _, _, _, _, _ => none
 | k + 1, x1, x2, x3, x14, x16, x17, x48, x49, x50, x59, x60, x61, x290000, x290001, x290002 => if x61 < x60 then (if 0 ≤ x61 then (if x61 < (x59.length : Int) then (if x61 < (x3.length : Int) then ((course_apart.f (rd x59 x61) x16).bind fun t302 => (course_Extend.l1 k x1 x2 x3 x14 x16 (mn x17 (wrap64 ((rd x3 x61) + (wrap64 (x290001 * t302))))) x48 x49 x50 x59 x60 (wrap64 (x61 + 1)) x290000 x290001 x290002)) else (none)) else (none)) else (none)) else (if x14.length < 17592186044416 then (course_Extend.l0 k x1 x2 x3 (x14 ++ [x17]) x48 x49 (wrap64 (x50 + 1)) x290000 x290001 x290002) else (none))
end
def course_Extend.f (k : Nat) (a0_0 : Int) (a0_1 : Int) (l0_2 : List (S26)) (a1 : Int) (l2 : List Int) (l3 : List Int) (l4 : List Int) : Option (List Int × Bool × Int) := (course_ask.f k a0_0 a0_1 l0_2 (([a1] : List Int))).bind fun t293 => (if t293 = 0 then (if (l2.length : Int) = (l3.length : Int) then ((course_rising.f k l2).bind fun t294 => (if t294 = true then ((course_rising.f k l4).bind fun t295 => (course_Extend.j0 k a1 l2 l3 l4 (!t295) a0_0 a0_1 l0_2)) else (course_Extend.j0 k a1 l2 l3 l4 true a0_0 a0_1 l0_2))) else (course_Extend.j0 k a1 l2 l3 l4 true a0_0 a0_1 l0_2)) else (some (([] : List Int), false, t293)))
theorem course_Extend.mono_l : ∀ k, (∀ y0 y1 y2 y3 y4 y5 y6 y7, LeO (course_Extend.j0 k y0 y1 y2 y3 y4 y5 y6 y7) (course_Extend.j0 (k + 1) y0 y1 y2 y3 y4 y5 y6 y7)) ∧ (∀ y0 y1 y2 y3 y4 y5 y6 y7 y8 y9, LeO (course_Extend.l0 k y0 y1 y2 y3 y4 y5 y6 y7 y8 y9) (course_Extend.l0 (k + 1) y0 y1 y2 y3 y4 y5 y6 y7 y8 y9)) ∧ (∀ y0 y1 y2 y3 y4 y5 y6 y7 y8 y9 y10 y11 y12 y13 y14, LeO (course_Extend.l1 k y0 y1 y2 y3 y4 y5 y6 y7 y8 y9 y10 y11 y12 y13 y14) (course_Extend.l1 (k + 1) y0 y1 y2 y3 y4 y5 y6 y7 y8 y9 y10 y11 y12 y13 y14))
 | 0 => ⟨fun _ _ _ _ _ _ _ _ r h => by simp [course_Extend.j0] at h, fun _ _ _ _ _ _ _ _ _ _ r h => by simp [course_Extend.l0] at h, fun _ _ _ _ _ _ _ _ _ _ _ _ _ _ _ r h => by simp [course_Extend.l1] at h⟩
 | k + 1 => by
  obtain ⟨ih0, ih1, ih2⟩ := course_Extend.mono_l k
  refine ⟨?_, ?_, ?_⟩
  ·
   intro y0 y1 y2 y3 y4 y5 y6 y7
   unfold course_Extend.j0
   repeat' first
   | (with_reducible exact ih0 _ _ _ _ _ _ _ _)
   | (with_reducible exact ih1 _ _ _ _ _ _ _ _ _ _)
   | (with_reducible exact ih2 _ _ _ _ _ _ _ _ _ _ _ _ _ _ _)
   | (with_reducible exact course_ask.mono _ _ _ _ _)
   | (with_reducible exact course_drift.mono _ _ _ _ _ _)
   | (with_reducible exact course_possible.mono _ _ _ _ _ _ _)
   | (with_reducible exact course_rising.mono _ _)
   | (with_reducible exact LeO.refl _)
   | (with_reducible exact LeO.none _)
   | (with_reducible refine LeO.ite ?_ ?_)
   | (with_reducible refine LeO.bind ?_ (fun _ => ?_))
   | exact ih0 _ _ _ _ _ _ _ _
   | exact ih1 _ _ _ _ _ _ _ _ _ _
   | exact ih2 _ _ _ _ _ _ _ _ _ _ _ _ _ _ _
   | exact course_ask.mono _ _ _ _ _
   | exact course_drift.mono _ _ _ _ _ _
   | exact course_possible.mono _ _ _ _ _ _ _
   | exact course_rising.mono _ _
   | exact LeO.none _
   | refine LeO.ite ?_ ?_
   | refine LeO.bind ?_ (fun _ => ?_)
  ·
   intro y0 y1 y2 y3 y4 y5 y6 y7 y8 y9
   unfold course_Extend.l0
   repeat' first
   | (with_reducible exact ih0 _ _ _ _ _ _ _ _)
   | (with_reducible exact ih1 _ _ _ _ _ _ _ _ _ _)
   | (with_reducible exact ih2 _ _ _ _ _ _ _ _ _ _ _ _ _ _ _)
   | (with_reducible exact course_ask.mono _ _ _ _ _)
   | (with_reducible exact course_drift.mono _ _ _ _ _ _)
   | (with_reducible exact course_possible.mono _ _ _ _ _ _ _)
   | (with_reducible exact course_rising.mono _ _)
   | (with_reducible exact LeO.refl _)
   | (with_reducible exact LeO.none _)
   | (with_reducible refine LeO.ite ?_ ?_)
   | (with_reducible refine LeO.bind ?_ (fun _ => ?_))
   | exact ih0 _ _ _ _ _ _ _ _
   | exact ih1 _ _ _ _ _ _ _ _ _ _
   | exact ih2 _ _ _ _ _ _ _ _ _ _ _ _ _ _ _
   | exact course_ask.mono _ _ _ _ _
   | exact course_drift.mono _ _ _ _ _ _
   | exact course_possible.mono _ _ _ _ _ _ _
   | exact course_rising.mono _ _
   | exact LeO.none _
   | refine LeO.ite ?_ ?_
   | refine LeO.bind ?_ (fun _ => ?_)
  ·
   intro y0 y1 y2 y3 y4 y5 y6 y7 y8 y9 y10 y11 y12 y13 y14
   unfold course_Extend.l1
   repeat' first
   | (with_reducible exact ih0 _ _ _ _ _ _ _ _)
   | (with_reducible exact ih1 _ _ _ _ _ _ _ _ _ _)
   | (with_reducible exact ih2 _ _ _ _ _ _ _ _ _ _ _ _ _ _ _)
   | (with_reducible exact course_ask.mono _ _ _ _ _)
   | (with_reducible exact course_drift.mono _ _ _ _ _ _)
   | (with_reducible exact course_possible.mono _ _ _ _ _ _ _)
   | (with_reducible exact course_rising.mono _ _)
   | (with_reducible exact LeO.refl _)
   | (with_reducible exact LeO.none _)
   | (with_reducible refine LeO.ite ?_ ?_)
   | (with_reducible refine LeO.bind ?_ (fun _ => ?_))
   | exact ih0 _ _ _ _ _ _ _ _
   | exact ih1 _ _ _ _ _ _ _ _ _ _
   | exact ih2 _ _ _ _ _ _ _ _ _ _ _ _ _ _ _
   | exact course_ask.mono _ _ _ _ _
   | exact course_drift.mono _ _ _ _ _ _
   | exact course_possible.mono _ _ _ _ _ _ _
   | exact course_rising.mono _ _
   | exact LeO.none _
   | refine LeO.ite ?_ ?_
   | refine LeO.bind ?_ (fun _ => ?_)
theorem course_Extend.mono : ∀ a0 a1 a2 a3 a4 a5 a6 k, LeO (course_Extend.f k a0 a1 a2 a3 a4 a5 a6) (course_Extend.f (k + 1) a0 a1 a2 a3 a4 a5 a6) := by
 intro a0 a1 a2 a3 a4 a5 a6 k
 obtain ⟨ih0, ih1, ih2⟩ := course_Extend.mono_l k
 unfold course_Extend.f
 repeat' first
   | (with_reducible exact ih0 _ _ _ _ _ _ _ _)
   | (with_reducible exact ih1 _ _ _ _ _ _ _ _ _ _)
   | (with_reducible exact ih2 _ _ _ _ _ _ _ _ _ _ _ _ _ _ _)
   | (with_reducible exact course_ask.mono _ _ _ _ _)
   | (with_reducible exact course_drift.mono _ _ _ _ _ _)
   | (with_reducible exact course_possible.mono _ _ _ _ _ _ _)
   | (with_reducible exact course_rising.mono _ _)
   | (with_reducible exact LeO.refl _)
   | (with_reducible exact LeO.none _)
   | (with_reducible refine LeO.ite ?_ ?_)
   | (with_reducible refine LeO.bind ?_ (fun _ => ?_))
   | exact ih0 _ _ _ _ _ _ _ _
   | exact ih1 _ _ _ _ _ _ _ _ _ _
   | exact ih2 _ _ _ _ _ _ _ _ _ _ _ _ _ _ _
   | exact course_ask.mono _ _ _ _ _
   | exact course_drift.mono _ _ _ _ _ _
   | exact course_possible.mono _ _ _ _ _ _ _
   | exact course_rising.mono _ _
   | exact LeO.none _
   | refine LeO.ite ?_ ?_
   | refine LeO.bind ?_ (fun _ => ?_)
def course_Extend.T16 : Bool × List (List Nat × List Nat) := (true, [([], []), ([], []), ([], []), ([1, 2], [1, 2]), ([3], [3]), ([], []), ([5], [5]), ([], []), ([], []), ([7, 8], [7, 8]), ([6, 9], [6, 9]), ([4, 10], [4, 10]), ([0, 11], [0, 11]), ([12, 9, 0, 1, 2, 3, 4, 5, 6, 7, 8, 9, 10, 11, 12], [0, 12])])
def course_Extend.B16 : List Nat := [0, 0, 0, 6, 14, 0, 32, 0, 0, 384, 992, 2046, 4095, 8191]
theorem course_Extend.tab16 : rtab .any (opsOf Tryd.f35 16) = course_Extend.T16 := by kernel_rfl
theorem course_Extend.bits16 : waitsOk course_Extend.T16.2 course_Extend.B16 = true := by kernel_rfl
set_option maxHeartbeats 8000000 in
set_option maxRecDepth 100000 in
theorem course_Extend.calls (k : Nat) (a0_0 : Int) (a0_1 : Int) (A0_2 : Option Addr) (c0_2 : Nat) (l0_2 : List (S26)) (a1 : Int) (A2 : Option Addr) (c2 : Nat) (l2 : List Int) (A3 : Option Addr) (c3 : Nat) (l3 : List Int) (A4 : Option Addr) (c4 : Nat) (l4 : List Int) (r1 : List Int) (r2 : Bool) (r3 : Int) (w : World) (hr0_2 : Kd.C k26 w A0_2 l0_2.length l0_2) (hc0_2 : l0_2.length ≤ c0_2) (hr2 : Kd.C (Kd.int .i64) w A2 l2.length l2) (hc2 : l2.length ≤ c2) (hr3 : Kd.C (Kd.int .i64) w A3 l3.length l3) (hc3 : l3.length ≤ c3) (hr4 : Kd.C (Kd.int .i64) w A4 l4.length l4) (hc4 : l4.length ≤ c4) (h : course_Extend.f k a0_0 a0_1 l0_2 a1 l2 l3 l4 = some (r1, r2, r3)) :
  Calls Tryd.prog 35 #[.agg #[.int .i64 a0_0, .int .i64 a0_1, .slice A0_2 l0_2.length c0_2], .int .i64 a1, .slice A2 l2.length c2, .slice A3 l3.length c3, .slice A4 l4.length c4] w fun e w' => ∃ v0_ : Value, e = .returned (.tuple #[v0_, .bool r2, .int .i64 r3]) ∧ Kd.R (Kd.int .i64) 3 w' w.heap.size (fun _ => True) v0_ r1 ∧ Below w.heap.size w w' := by
 have hu24 := Tryd.underlying24
 have HR0_2 := Aside0.mk (hr0_2)
 have HC0_2 := Aside0.mk (hc0_2)
 clear hr0_2 hc0_2
 have HR2 := Aside0.mk (hr2)
 have HC2 := Aside0.mk (hc2)
 clear hr2 hc2
 have HR3 := Aside0.mk (hr3)
 have HC3 := Aside0.mk (hc3)
 clear hr3 hc3
 have HR4 := Aside0.mk (hr4)
 have HC4 := Aside0.mk (hc4)
 clear hr4 hc4
 have HB := Bw.mk (Below.refl w.heap.size w)
 have H : ((course_ask.f k a0_0 a0_1 l0_2 (([a1] : List Int))).bind fun t293 => (if t293 = 0 then (if (l2.length : Int) = (l3.length : Int) then ((course_rising.f k l2).bind fun t294 => (if t294 = true then ((course_rising.f k l4).bind fun t295 => (course_Extend.j0 k a1 l2 l3 l4 (!t295) a0_0 a0_1 l0_2)) else (course_Extend.j0 k a1 l2 l3 l4 true a0_0 a0_1 l0_2))) else (course_Extend.j0 k a1 l2 l3 l4 true a0_0 a0_1 l0_2)) else (some (([] : List Int), false, t293)))) = some (r1, r2, r3) := h
 clear h
 obtain ⟨y290, hy290⟩ : ∃ y_ : List Int, y_ = (([a1] : List Int)) := ⟨_, rfl⟩
 replace H : ((course_ask.f k a0_0 a0_1 l0_2 y290).bind fun t293 => (if t293 = 0 then (if (l2.length : Int) = (l3.length : Int) then ((course_rising.f k l2).bind fun t294 => (if t294 = true then ((course_rising.f k l4).bind fun t295 => (course_Extend.j0 k a1 l2 l3 l4 (!t295) a0_0 a0_1 l0_2)) else (course_Extend.j0 k a1 l2 l3 l4 true a0_0 a0_1 l0_2))) else (course_Extend.j0 k a1 l2 l3 l4 true a0_0 a0_1 l0_2)) else (some (([] : List Int), false, t293)))) = some (r1, r2, r3) := by first | (rw [hy290]; with_reducible exact H) | (have H2_ := (Option.bind_some _ _).symm.trans H; rw [hy290]; with_reducible exact H2_) | (have H2_ := (Option.bind_some _ _).symm.trans H; with_reducible exact H2_) | with_reducible exact H | (rw [hy290]; exact H) | exact H
 have Ny290 := Aside0.mk (hy290)
 clear hy290
 replace H := Option.bind_eq_some_iff.mp H
 obtain ⟨t293, A60, H⟩ := H
 have A6 := Aside0.mk (A60)
 clear A60
 by_cases c7 : t293 = 0
 ·
  rw [if_pos c7] at H
  have c7b0 : (t293 == 0) = true := beq_iff_eq.mpr c7
  have c7b1 : (t293 != 0) = false := bne_eq_false_iff_eq.mpr c7
  clear c7
  have HC8 := Aside0.mk (H)
  clear H
  go_enter Tryd.func35, Tryd.ntmps35
  go_upto_region 4 with (first | ((with_reducible refine gate_dst (N := 5) rfl ?_); refine bxE 5 24 #[.int .i64 a0_0, .int .i64 a0_1, .slice A0_2 l0_2.length c0_2] (by rfl) (by rfl) (by first | (go_simp; done) | (go_simp; rfl)) ?_; intro gb289 hg w9 hbox hb; have BK289 := Bk.mk (hbox); have GE289 := eB w hg; replace HB := bS w hb; clear hb hbox hg; obtain ⟨hcz10_0, hcz10_1, hcz10_2, hfz10_0, hfz10_1, hfz10_2⟩ := cz3 BK289) | ((with_reducible refine gate_dst (N := 22) rfl ?_); refine Kd.R_lit (Kd.int .i64) _ 3 ?hg (N := 22) ?hd (xs := ([a1] : List Int)) (inner := [.int .i64 a1]) (ok := fun _ => True) (okp := fun _ => True) ?hr ?hp (fun _ hk => hk) trivial (Below.refl _ _) (Nat.le_refl _) (by simp) ?_; (case hd => rfl); (case hg => rfl); (case hr => first | (go_simp; done) | (go_simp; rfl)); (case hp => exact (Reps.one (show Kd.M (Kd.int .i64) _ _ _ a1 [.int .i64 a1] from rfl) (Reps.none _ _))); intro v291 w11 ho12 hb hg_ hnew_; clear hg_ hnew_; (first | rw [← Ny290.out] at ho12 | (simp only [Int.reduceToNat] at ho12; rw [← Ny290.out] at ho12)); have n0_ := Aside0.mk (Kd.R_lower ho12 (bz w)); replace BK289 := kB gb289 hb; replace HB := bS w hb; have HO292 := n0_; clear n0_ hb ho12; obtain ⟨Ao13, co13, eo13⟩ := Kd.R_slice HO292.out; subst eo13) | ((with_reducible refine gate_callee (f := 76) rfl ?_); refine goesLM (some 23) rfl rfl Tryd.func76 (by kernel_rfl) rfl #[.agg #[.int .i64 a0_0, .int .i64 a0_1, .slice A0_2 l0_2.length c0_2], .slice Ao13 y290.length co13] rfl (by rfl) ?_; (with_reducible refine (course_ask.calls k a0_0 a0_1 _ _ l0_2 _ _ y290 t293 _ ?side1 ?side2 ?side3 ?side4 A6.out).mono ?_); (case side1 => exact cP (Kd.C_below HR0_2.out HB.out)); (case side2 => exact HC0_2.out); (case side3 => exact cP (Kd.R_reads' HO292.out).2.2); (case side4 => exact (Kd.R_reads' HO292.out).2.1); rintro e w14 ⟨rfl, hb⟩; refine ⟨_, rfl, ?_⟩; replace HO292 := rB HO292 hb; replace BK289 := kB gb289 hb; replace HB := bS w hb; (try clear hb)))
  (try simp only [Act.put, List.setIfInBounds_toArray, List.set_cons_zero, List.set_cons_succ])
  go_cut [41] (fun v41 wc => ∃ (kq : Nat) (x41_7 : Bool), v41 = .bool x41_7 ∧ Aside0 (course_Extend.j0 kq a1 l2 l3 l4 x41_7 a0_0 a0_1 l0_2 = some (r1, r2, r3)) ∧ Aside0 (kq ≤ k) ∧ Bk wc gb289 (.cells #[.int .i64 a0_0, .int .i64 a0_1, (.slice A0_2 l0_2.length c0_2)] 24 (0, 0)) ∧ Bw w wc)
  case first =>
   have H := HC8.out
   clear HC8
   by_cases c15 : (l2.length : Int) = (l3.length : Int)
   ·
    rw [if_pos c15] at H
    have c15b0 : ((l2.length : Int) == (l3.length : Int)) = true := beq_iff_eq.mpr c15
    have c15b1 : ((l2.length : Int) != (l3.length : Int)) = false := bne_eq_false_iff_eq.mpr c15
    have c15b2 : (l2.length == l3.length) = true := by first | simpa using c15 | (simp at c15 ⊢; omega)
    clear c15
    (first | rw [c15b0] | (simp only [i64_w]; rw [c15b0]) | skip)
    replace H := Option.bind_eq_some_iff.mp H
    obtain ⟨t294, A160, H⟩ := H
    have A16 := Aside0.mk (A160)
    clear A160
    by_cases c17 : t294 = true
    ·
     subst c17
     rw [if_pos rfl] at H
     replace H := Option.bind_eq_some_iff.mp H
     obtain ⟨t295, A180, H⟩ := H
     have A18 := Aside0.mk (A180)
     clear A180
     have H' := Aside0.mk H
     clear H
     go_wp2_with (first | (go_at_call 97; (with_reducible refine (course_rising.calls k _ _ l2 true _ ?side1 ?side2 A16.out).mono ?_); (case side1 => exact cP (Kd.C_below HR2.out HB.out)); (case side2 => exact HC2.out); rintro e w' ⟨rfl, ⟨nd, rfl⟩⟩) | (go_at_call 97; (with_reducible refine (course_rising.calls k _ _ l4 t295 _ ?side1 ?side2 A18.out).mono ?_); (case side1 => exact (Kd.C_below HR4.out (bw w))); (case side2 => exact HC4.out); rintro e w' ⟨rfl, ⟨nd, rfl⟩⟩))
     go_meet
     case rel => exact ⟨_, (!t295), (by first | rfl | (simp; done) | (simp [*]; done)), H', ⟨by first | omega | exact Nat.le_refl _⟩, inferInstance, inferInstance⟩
    ·
     replace c17 := Bool.eq_false_iff.mpr c17
     subst c17
     rw [if_neg (show ¬ (false = true) by decide)] at H
     have H' := Aside0.mk H
     clear H
     go_wp2_with (first | (go_at_call 97; (with_reducible refine (course_rising.calls k _ _ l2 false _ ?side1 ?side2 A16.out).mono ?_); (case side1 => exact cP (Kd.C_below HR2.out HB.out)); (case side2 => exact HC2.out); rintro e w' ⟨rfl, ⟨nd, rfl⟩⟩))
     go_meet
     case rel => exact ⟨_, (true), (by first | rfl | (simp; done) | (simp [*]; done)), H', ⟨by first | omega | exact Nat.le_refl _⟩, inferInstance, inferInstance⟩
   ·
    rw [if_neg c15] at H
    have c15b0 : ((l2.length : Int) == (l3.length : Int)) = false := beq_eq_false_iff_ne.mpr c15
    have c15b1 : ((l2.length : Int) != (l3.length : Int)) = true := bne_iff_ne.mpr c15
    have c15b2 : (l2.length == l3.length) = false := by first | simpa using c15 | (simp at c15 ⊢; omega)
    (first | rw [c15b0] | (simp only [i64_w]; rw [c15b0]) | skip)
    have H' := Aside0.mk H
    clear H
    go_wp2
    go_meet
    case rel => exact ⟨_, (true), (by first | rfl | (simp; done) | (simp [*]; done)), H', ⟨by first | omega | exact Nat.le_refl _⟩, inferInstance, inferInstance⟩
  case rest =>
   clear HC8
   try clear c1
   try clear c2
   try clear p2
   try clear c3
   try clear c4
   try clear c7
   try clear c7b0
   try clear c7b1
   try clear c15
   try clear c15b0
   try clear c15b1
   try clear c15b2
   try clear c17
   obtain ⟨kq, x41_7, rfl, HA, HJ7, BK289, HB⟩ := hcut
   cases kq with
   | zero => exact absurd HA.out (by simp [course_Extend.j0])
   | succ kj7 =>
    have H := HA.out
    clear HA
    simp only [course_Extend.j0] at H
    by_cases c19 : x41_7 = true
    ·
     subst c19
     rw [if_pos rfl] at H
     simp only [Option.some.injEq, Prod.mk.injEq] at H
     obtain ⟨rfl, rfl, rfl⟩ := H
     go_wp2
     go_ret3
     exact ⟨_, by first | rfl | (simp [errW_none, errW_some] <;> rfl) | (simp [*, errW_none, errW_some] <;> rfl), by first | exact Kd.R_nil _ _ _ _ _ | exact Kd.N_nil _ _ _ _ _ | exact Kd.V_nil _ _ _ _ _ | exact Kd.Q_nil _ _ _ _ _ | exact Kd.S_nil _ _ _ _ _, bw w⟩
    ·
     replace c19 := Bool.eq_false_iff.mpr c19
     subst c19
     rw [if_neg (show ¬ (false = true) by decide)] at H
     replace H := Option.bind_eq_some_iff.mp H
     obtain ⟨t296, A200, H⟩ := H
     have A20 := Aside0.mk (A200)
     clear A200
     by_cases c21 : t296 = true
     ·
      subst c21
      rw [if_pos rfl] at H
      have H' := Aside0.mk H
      clear H
      obtain ⟨hcz22_0, hcz22_1, hcz22_2, hfz22_0, hfz22_1, hfz22_2⟩ := cz3 BK289
      go_wp2_with (first | ((with_reducible refine gate_callee (f := 98) rfl ?_); refine goesLM (some 46) rfl rfl Tryd.func98 (by kernel_rfl) rfl #[.agg #[.int .i64 a0_0, .int .i64 a0_1, .slice A0_2 l0_2.length c0_2], .int .i64 a1, .slice A2 l2.length c2, .slice A3 l3.length c3] rfl (by rfl) ?_; (with_reducible refine (course_possible.calls kj7 a0_0 a0_1 _ _ l0_2 a1 _ _ l2 _ _ l3 true _ ?side1 ?side2 ?side3 ?side4 ?side5 ?side6 A20.out).mono ?_); (case side1 => exact cP (Kd.C_below HR0_2.out HB.out)); (case side2 => exact HC0_2.out); (case side3 => exact cP (Kd.C_below HR2.out HB.out)); (case side4 => exact HC2.out); (case side5 => exact cP (Kd.C_below HR3.out HB.out)); (case side6 => exact HC3.out); rintro e w23 ⟨rfl, hb⟩; refine ⟨_, rfl, ?_⟩; replace BK289 := kB gb289 hb; replace HB := bS w hb; (try clear hb)))
      go_loopg [14, 50] kj7 (fun kq v14 v50 w' => ∃ (x14_2 : List Int) (x50_2 : Int), v50 = .int .i64 x50_2 ∧ Aside0 (course_Extend.l0 kq a1 l2 l3 x14_2 l4 (l4.length : Int) x50_2 a0_0 a0_1 l0_2 = some (r1, r2, r3)) ∧ Aside0 (kq ≤ kj7) ∧ Aside0 (Kd.R (Kd.int .i64) 3 w' w.heap.size (fun _ => True) v14 x14_2) ∧ Bk w' gb289 (.cells #[.int .i64 a0_0, .int .i64 a0_1, (.slice A0_2 l0_2.length c0_2)] 24 (0, 0)) ∧ Bw w w')
      case atStart => exact ⟨(([] : List Int)), (0), (by first | rfl | (simp; done) | (simp [*]; done)), H', ⟨Nat.le_refl _⟩, ⟨by first | exact Kd.R_nil _ _ _ _ _ | exact Kd.N_nil _ _ _ _ _ | exact Kd.V_nil _ _ _ _ _ | exact Kd.Q_nil _ _ _ _ _ | exact Kd.S_nil _ _ _ _ _⟩, inferInstance, inferInstance⟩
      case round =>
       clear H'
       try clear c1
       try clear c2
       try clear p2
       try clear c3
       try clear c4
       try clear c7
       try clear c7b0
       try clear c7b1
       try clear c9
       try clear c15
       try clear c15b0
       try clear c15b1
       try clear c15b2
       try clear c17
       try clear c19
       try clear c21
       try clear p2
       obtain ⟨x14_2, x50_2, rfl, HA, HK2, HO_14, BK289, HB⟩ := hrel
       cases gk with
       | zero => exact absurd HA.out (by simp [course_Extend.l0])
       | succ k2 =>
        have H := HA.out
        clear HA
        simp only [course_Extend.l0] at H
        by_cases c24 : x50_2 < (l4.length : Int)
        ·
         rw [if_pos c24] at H
         have c24b0 : decide (x50_2 < (l4.length : Int)) = true := decide_eq_true c24
         clear c24
         by_cases c25 : 0 ≤ x50_2
         ·
          rw [if_pos c25] at H
          have c25b0 : decide (0 ≤ x50_2) = true := decide_eq_true c25
          clear c25
          by_cases c26 : x50_2 < (l4.length : Int)
          ·
           rw [if_pos c26] at H
           have c26b0 : decide (x50_2 < (l4.length : Int)) = true := decide_eq_true c26
           clear c26
           replace H := Option.bind_eq_some_iff.mp H
           obtain ⟨⟨t298, t299⟩, A270, H⟩ := H
           have A27 := Aside0.mk (A270)
           clear A270
           have H' := Aside0.mk H
           clear H
           have p297 : 0 ≤ (x50_2 : Int) := of_decide_eq_true (by first | (with_reducible assumption) | assumption)
           have q297 : x50_2 < (l4.length : Int) := of_decide_eq_true (by first | (with_reducible assumption) | assumption)
           obtain ⟨ad297, e297, hx297_0⟩ := Kd.at_int HR4.out x50_2 p297 q297
           cases e297
           replace hx297_0 := cB HB hx297_0
           replace p297 := eq_true p297
           replace q297 := eq_true q297
           obtain ⟨hcz28_0, hcz28_1, hcz28_2, hfz28_0, hfz28_1, hfz28_2⟩ := cz3 BK289
           go_wp2_with (first | ((with_reducible refine gate_callee (f := 77) rfl ?_); refine goesLM (some 57) rfl rfl Tryd.func77 (by kernel_rfl) rfl #[.agg #[.int .i64 a0_0, .int .i64 a0_1, .slice A0_2 l0_2.length c0_2], .int .i64 (rd l4 x50_2), .int .i64 a1] rfl (by rfl) ?_; (with_reducible refine (course_drift.calls k2 a0_0 a0_1 _ _ l0_2 (rd l4 x50_2) a1 t298 t299 _ ?side1 ?side2 A27.out).mono ?_); (case side1 => exact cP (Kd.C_below HR0_2.out HB.out)); (case side2 => exact HC0_2.out); rintro e w29 ⟨rfl, hb⟩; refine ⟨_, rfl, ?_⟩; replace HO_14 := rB HO_14 hb; replace BK289 := kB gb289 hb; replace HB := bS w hb; (try clear hb)))
           go_loopg [17, 61] k2 (fun kq v17 v61 w' => ∃ (x17_3 : Int) (x61_3 : Int), v17 = .int .i64 x17_3 ∧ v61 = .int .i64 x61_3 ∧ Aside0 (course_Extend.l1 kq a1 l2 l3 x14_2 (rd l4 x50_2) x17_3 l4 (l4.length : Int) x50_2 l2 (l2.length : Int) x61_3 a0_0 a0_1 l0_2 = some (r1, r2, r3)) ∧ Aside0 (kq ≤ k2) ∧ Aside0 (Kd.R (Kd.int .i64) 3 w' w.heap.size (fun _ => True) u14 x14_2) ∧ Bk w' gb289 (.cells #[.int .i64 a0_0, .int .i64 a0_1, (.slice A0_2 l0_2.length c0_2)] 24 (0, 0)) ∧ Bw w w')
           case atStart => exact ⟨(t299), (0), (by first | rfl | (simp; done) | (simp [*]; done)), (by first | rfl | (simp; done) | (simp [*]; done)), H', ⟨Nat.le_refl _⟩, ⟨by (with_reducible repeat (first | apply Kd.R_alloc | apply Kd.R_drewN | apply Kd.R_drew)); exact HO_14.out⟩, inferInstance, inferInstance⟩
           case round =>
            clear H'
            try clear c1
            try clear c2
            try clear p2
            try clear q2
            try clear hx2
            try clear c3
            try clear c4
            try clear c7
            try clear c7b0
            try clear c7b1
            try clear c9
            try clear c15
            try clear c15b0
            try clear c15b1
            try clear c15b2
            try clear c17
            try clear c19
            try clear c21
            try clear c24
            try clear c24b0
            try clear c25
            try clear c25b0
            try clear c26
            try clear c26b0
            try clear p29
            try clear q29
            try clear hx29
            try clear hx297_0
            try clear p2
            try clear p297
            try clear q297
            obtain ⟨x17_3, x61_3, rfl, rfl, HA, HK3, HO_14, BK289, HB⟩ := hrel
            cases gk with
            | zero => exact absurd HA.out (by simp [course_Extend.l1])
            | succ k3 =>
             have H := HA.out
             clear HA
             simp only [course_Extend.l1] at H
             by_cases c30 : x61_3 < (l2.length : Int)
             ·
              rw [if_pos c30] at H
              have c30b0 : decide (x61_3 < (l2.length : Int)) = true := decide_eq_true c30
              clear c30
              by_cases c31 : 0 ≤ x61_3
              ·
               rw [if_pos c31] at H
               have c31b0 : decide (0 ≤ x61_3) = true := decide_eq_true c31
               clear c31
               by_cases c32 : x61_3 < (l2.length : Int)
               ·
                rw [if_pos c32] at H
                have c32b0 : decide (x61_3 < (l2.length : Int)) = true := decide_eq_true c32
                clear c32
                by_cases c33 : x61_3 < (l3.length : Int)
                ·
                 rw [if_pos c33] at H
                 have c33b0 : decide (x61_3 < (l3.length : Int)) = true := decide_eq_true c33
                 clear c33
                 replace H := Option.bind_eq_some_iff.mp H
                 obtain ⟨t302, A340, H⟩ := H
                 have A34 := Aside0.mk (A340)
                 clear A340
                 obtain ⟨ji35, hji35⟩ : ∃ j_ : Int, (mn x17_3 (wrap64 ((rd l3 x61_3) + (wrap64 (a0_1 * t302))))) = j_ := ⟨_, rfl⟩
                 replace H : (course_Extend.l1 k3 a1 l2 l3 x14_2 (rd l4 x50_2) ji35 l4 (l4.length : Int) x50_2 l2 (l2.length : Int) (wrap64 (x61_3 + 1)) a0_0 a0_1 l0_2) = some (r1, r2, r3) := by first | (rw [hji35] at H; exact H) | (simp only [hji35] at H ⊢; exact H)
                 (try rw [hji35] at A34)
                 have hji35_ : (if (wrap64 ((rd l3 x61_3) + (wrap64 (a0_1 * t302)))) < x17_3 then (wrap64 ((rd l3 x61_3) + (wrap64 (a0_1 * t302)))) else x17_3) = ji35 := hji35
                 have H' := Aside0.mk H
                 clear H
                 have p300 : 0 ≤ (x61_3 : Int) := of_decide_eq_true (by first | (with_reducible assumption) | assumption)
                 have q300 : x61_3 < (l2.length : Int) := of_decide_eq_true (by first | (with_reducible assumption) | assumption)
                 obtain ⟨ad300, e300, hx300_0⟩ := Kd.at_int HR2.out x61_3 p300 q300
                 cases e300
                 replace hx300_0 := cB HB hx300_0
                 replace p300 := eq_true p300
                 replace q300 := eq_true q300
                 try go_wp2
                 have n0_ := Aside0.mk (Kd.R_drew HO_14.out)
                 have n1_ := Bk.mk (blk_drew BK289.out)
                 have n2_ := Bw.mk (below_drew1 HB.out)
                 clear HO_14 BK289 HB
                 have HO_14 := n0_
                 have BK289 := n1_
                 have HB := n2_
                 clear n0_ n1_ n2_
                 have p301 : 0 ≤ (x61_3 : Int) := of_decide_eq_true (by first | (with_reducible assumption) | assumption)
                 have q301 : x61_3 < (l3.length : Int) := of_decide_eq_true (by first | (with_reducible assumption) | assumption)
                 obtain ⟨ad301, e301, hx301_0⟩ := Kd.at_int HR3.out x61_3 p301 q301
                 have hw301_0 := hx301_0
                 cases e301
                 replace hx301_0 := cB HB hx301_0
                 replace p301 := eq_true p301
                 replace q301 := eq_true q301
                 refine start_ (n := 14) (S := fun w' => w'.cell? ⟨gb289, 0, none⟩ = some (.int .i64 a0_0) ∧ w'.cell? ⟨gb289, 1, none⟩ = some (.int .i64 a0_1) ∧ w'.cell? ⟨gb289, 2, none⟩ = some (.slice A0_2 l0_2.length c0_2) ∧ w'.cell? (ad301.add (x61_3).toNat) = some (.int .i64 (rd l3 x61_3))) (ds := []) #[false, false, false, false, false, false, false, false, false, false, false, false, false, false] (by kernel_rfl) rfl rfl ⟨bc BK289 0, bc BK289 1, bc BK289 2, ((HB.out.cell (World.block_lt_of_cell? w _ hw301_0)).trans hw301_0)⟩ (fun hHeld => ?_); refine with_tabW course_Extend.tab16 course_Extend.bits16 (fun HT_ HW_ => ?_)
                 generalize wr.drew = w36 at HO_14 BK289 HB hx301_0 hHeld ⊢
                 refine pS 0 (some 66) rfl rfl (any_of HT_.out (by kernel_rfl)) (fun _ _ _ h => h) (by rfl) (fun w' => by go_simp; with_reducible rfl) (by simp only [Act.put, List.setIfInBounds_toArray, List.set_cons_zero, List.set_cons_succ, i64_w]; rfl) ?_
                 refine pS 1 (some 67) rfl rfl (any_of HT_.out (by kernel_rfl)) (fun _ _ _ h => h) (by rfl) (fun w' => by go_simp; with_reducible rfl) (by simp only [Act.put, List.setIfInBounds_toArray, List.set_cons_zero, List.set_cons_succ, i64_w]; rfl) ?_
                 refine pS 2 (some 68) rfl rfl (any_of HT_.out (by kernel_rfl)) (fun _ _ _ h => h) (by rfl) (fun w' => by go_simp; with_reducible rfl) (by simp only [Act.put, List.setIfInBounds_toArray, List.set_cons_zero, List.set_cons_succ, i64_w]; rfl) ?_
                 refine pS 3 (some 69) rfl rfl (any_of HT_.out (by kernel_rfl)) (fun _ _ _ h => h) (by rfl) (fun w' => by go_simp; with_reducible rfl) (by simp only [Act.put, List.setIfInBounds_toArray, List.set_cons_zero, List.set_cons_succ, i64_w]; rfl) ?_
                 refine pS 5 (some 71) rfl rfl (any_of HT_.out (by kernel_rfl)) (fun _ _ _ h => h) (by rfl) (fun w' => by go_simp; with_reducible rfl) (by simp only [Act.put, List.setIfInBounds_toArray, List.set_cons_zero, List.set_cons_succ, i64_w]; rfl) ?_
                 refine pS 7 (some 73) rfl rfl (any_of HT_.out (by kernel_rfl)) (fun _ _ _ h => h) (by rfl) (fun w' => by go_simp; with_reducible rfl) (by simp only [Act.put, List.setIfInBounds_toArray, List.set_cons_zero, List.set_cons_succ, i64_w]; rfl) ?_
                 refine pS 8 (some 74) rfl rfl (any_of HT_.out (by kernel_rfl)) (fun _ _ _ h => h) (by rfl) (fun w' => by go_simp; with_reducible rfl) (by simp only [Act.put, List.setIfInBounds_toArray, List.set_cons_zero, List.set_cons_succ, i64_w]; rfl) ?_
                 refine tS 4 (some 70) rfl rfl (take_ofW HT_.out HW_.out (by kernel_rfl)) (fun _ _ _ h => h) (by rfl) (by rintro w' ⟨s0, s1, s2, s3⟩; go_simp; with_reducible rfl) hHeld (by simp only [Act.put, List.setIfInBounds_toArray, List.set_cons_zero, List.set_cons_succ, i64_w]; rfl) ?_
                 refine tS 6 (some 72) rfl rfl (take_ofW HT_.out HW_.out (by kernel_rfl)) (fun _ _ _ h => h) (by rfl) (by rintro w' ⟨s0, s1, s2, s3⟩; go_simp; with_reducible rfl) hHeld (by simp only [Act.put, List.setIfInBounds_toArray, List.set_cons_zero, List.set_cons_succ, i64_w]; rfl) ?_
                 refine one_ (i := 9) (N := some 75) #[true, true, true, true, true, true, true, true, true, true, false, false, false, false] rfl rfl (one_of HT_.out (by kernel_rfl)) (by decide) (fun K hK => ?_)
                 refine goesM Tryd.func101 (by kernel_rfl) rfl #[.int .i64 (rd l2 x61_3), .int .i64 (rd l4 x50_2)] (by rfl) rfl rfl (by rfl) ?_
                 with_reducible refine (course_apart.calls (rd l2 x61_3) (rd l4 x50_2) t302 _ A34.out).mono ?_
                 rintro e w37 ⟨rfl, hb⟩
                 refine ⟨_, rfl, ?_⟩
                 replace HO_14 := rB HO_14 hb
                 replace BK289 := kB gb289 hb
                 replace HB := bS w hb
                 (try clear hb)
                 refine hK.out _ _ ⟨bc BK289 0, bc BK289 1, bc BK289 2, ((HB.out.cell (World.block_lt_of_cell? w _ hw301_0)).trans hw301_0)⟩ (fun hHeld => ?_)
                 clear hK K
                 refine norm_ (a' := ?_) ?_ ?_
                 rotate_left
                 ·
                  show Act.put _ (some 75) _ = _
                  simp only [Act.put, List.setIfInBounds_toArray, List.set_cons_zero, List.set_cons_succ, i64_w]
                  rfl
                 refine pS 10 (some 76) rfl rfl (any_of HT_.out (by kernel_rfl)) (fun _ _ _ h => h) (by rfl) (fun w' => by go_simp; with_reducible rfl) (by simp only [Act.put, List.setIfInBounds_toArray, List.set_cons_zero, List.set_cons_succ, i64_w]; rfl) ?_
                 refine pS 11 (some 77) rfl rfl (any_of HT_.out (by kernel_rfl)) (fun _ _ _ h => h) (by rfl) (fun w' => by go_simp; with_reducible rfl) (by simp only [Act.put, List.setIfInBounds_toArray, List.set_cons_zero, List.set_cons_succ, i64_w]; rfl) ?_
                 refine pS 12 (some 78) rfl rfl (any_of HT_.out (by kernel_rfl)) (fun _ _ _ h => h) (by rfl) (fun w' => by go_simp; with_reducible rfl) (by simp only [Act.put, List.setIfInBounds_toArray, List.set_cons_zero, List.set_cons_succ, i64_w]; rfl) ?_
                 refine pS 13 (some 17) rfl rfl (any_of HT_.out (by kernel_rfl)) (fun _ _ _ h => h) (by rfl) (fun w' => by go_simp; with_reducible rfl) (by simp only [Act.put, List.setIfInBounds_toArray, List.set_cons_zero, List.set_cons_succ, i64_w]; rfl) ?_
                 refine done_ (done_of HT_.out (by kernel_rfl)) ?_
                 try go_wp2
                 go_roundg k3
                 case measure => have := HJ7.out; have := HK2.out; have := HK3.out; omega
                 case rel => exact ⟨(ji35), (wrap64 (x61_3 + 1)), (by first | rfl | (simp; done) | (simp only [← hji35] <;> (first | rfl | simp)) | (simp [*]; done)), (by first | rfl | (simp; done) | (simp [*]; done)), H', ⟨by have := HJ7.out; have := HK2.out; have := HK3.out; omega⟩, ⟨by (with_reducible repeat (first | apply Kd.R_alloc | apply Kd.R_drewN | apply Kd.R_drew)); exact HO_14.out⟩, inferInstance, inferInstance⟩
                ·
                 rw [if_neg c33] at H
                 exact absurd H (by simp)
               ·
                rw [if_neg c32] at H
                exact absurd H (by simp)
              ·
               rw [if_neg c31] at H
               exact absurd H (by simp)
             ·
              rw [if_neg c30] at H
              have c30b0 : decide (x61_3 < (l2.length : Int)) = false := decide_eq_false c30
              clear c30
              by_cases c38 : x14_2.length < 17592186044416
              ·
               rw [if_pos c38] at H
               have LMc38 := Aside0.mk (c38)
               clear c38
               obtain ⟨y303, hy303⟩ : ∃ y_ : List Int, y_ = (x14_2 ++ [x17_3]) := ⟨_, rfl⟩
               replace H : (course_Extend.l0 k3 a1 l2 l3 y303 l4 (l4.length : Int) (wrap64 (x50_2 + 1)) a0_0 a0_1 l0_2) = some (r1, r2, r3) := by first | (rw [hy303]; with_reducible exact H) | (have H2_ := (Option.bind_some _ _).symm.trans H; rw [hy303]; with_reducible exact H2_) | (have H2_ := (Option.bind_some _ _).symm.trans H; with_reducible exact H2_) | with_reducible exact H | (rw [hy303]; exact H) | exact H
               have Ny303 := Aside0.mk (hy303)
               clear hy303
               have H' := Aside0.mk H
               clear H
               go_wp2_with (first | ((with_reducible refine gate_builtin (b := .append) (xs := #[.tmp 80, .tmp 82]) rfl ?_); at_builtin; refine Kd.R_append (Kd.int .i64) (w0 := w) w.heap.size rfl (.tmp 80) (.tmp 82) 51 3 (.int .i64 0) 8 rfl Tryd.underlying51 info3 rfl (by decide) (by omega) u14 x14_2 x17_3 [.int .i64 x17_3] (fun _ => True) (fun _ => False) rfl rfl ?aP (fun _ hk => hk.elim) ?aF ?aO ?aB ?aS ?aL ?_; (case aP => exact rfl); (case aB => exact (bw w)); (case aF => exact (fun _ _ => trivial)); (case aO => exact (by (with_reducible repeat (first | apply Kd.R_alloc | apply Kd.R_drewN | apply Kd.R_drew)); exact HO_14.out)); (case aS => exact (bz w)); (case aL => have := LMc38.out; omega); intro v304 w39 ho hb hg hat; rw [← Ny303.out] at ho; have n0_ := Bk.mk (blk_grown (g := gb289) (o := .cells #[.int .i64 a0_0, .int .i64 a0_1, .slice A0_2 l0_2.length c0_2] 24 (0, 0)) (bk _ gb289) hg (Kd.R_ne HO_14.out BK289.out (by decide))); have n1_ := Bw.mk (hb); have n2_ := Aside0.mk (ho); clear BK289 HB HO_14; have BK289 := n0_; have HB := n1_; have HO305 := n2_; clear n0_ n1_ n2_ ho hb hg hat))
               go_roundg k3
               case measure => have := HJ7.out; have := HK2.out; have := HK3.out; omega
               case rel => exact ⟨(y303), (wrap64 (x50_2 + 1)), (by first | rfl | (simp; done) | (simp [*]; done)), H', ⟨by have := HJ7.out; have := HK2.out; have := HK3.out; omega⟩, ⟨by (with_reducible repeat (first | apply Kd.R_alloc | apply Kd.R_drewN | apply Kd.R_drew)); exact HO305.out⟩, inferInstance, inferInstance⟩
              ·
               rw [if_neg c38] at H
               exact absurd H (by simp)
          ·
           rw [if_neg c26] at H
           exact absurd H (by simp)
         ·
          rw [if_neg c25] at H
          exact absurd H (by simp)
        ·
         rw [if_neg c24] at H
         have c24b0 : decide (x50_2 < (l4.length : Int)) = false := decide_eq_false c24
         clear c24
         simp only [Option.some.injEq, Prod.mk.injEq] at H
         obtain ⟨rfl, rfl, rfl⟩ := H
         go_wp2
         go_ret3
         exact ⟨_, by first | rfl | (simp [errW_none, errW_some] <;> rfl) | (simp [*, errW_none, errW_some] <;> rfl), by (with_reducible repeat (first | apply Kd.R_alloc | apply Kd.R_drewN | apply Kd.R_drew)); exact HO_14.out, bw w⟩
     ·
      replace c21 := Bool.eq_false_iff.mpr c21
      subst c21
      rw [if_neg (show ¬ (false = true) by decide)] at H
      simp only [Option.some.injEq, Prod.mk.injEq] at H
      obtain ⟨rfl, rfl, rfl⟩ := H
      obtain ⟨hcz40_0, hcz40_1, hcz40_2, hfz40_0, hfz40_1, hfz40_2⟩ := cz3 BK289
      go_wp2_with (first | ((with_reducible refine gate_callee (f := 98) rfl ?_); refine goesLM (some 46) rfl rfl Tryd.func98 (by kernel_rfl) rfl #[.agg #[.int .i64 a0_0, .int .i64 a0_1, .slice A0_2 l0_2.length c0_2], .int .i64 a1, .slice A2 l2.length c2, .slice A3 l3.length c3] rfl (by rfl) ?_; (with_reducible refine (course_possible.calls kj7 a0_0 a0_1 _ _ l0_2 a1 _ _ l2 _ _ l3 false _ ?side1 ?side2 ?side3 ?side4 ?side5 ?side6 A20.out).mono ?_); (case side1 => exact cP (Kd.C_below HR0_2.out HB.out)); (case side2 => exact HC0_2.out); (case side3 => exact cP (Kd.C_below HR2.out HB.out)); (case side4 => exact HC2.out); (case side5 => exact cP (Kd.C_below HR3.out HB.out)); (case side6 => exact HC3.out); rintro e w41 ⟨rfl, hb⟩; refine ⟨_, rfl, ?_⟩; replace BK289 := kB gb289 hb; replace HB := bS w hb; (try clear hb)))
      go_ret3
      exact ⟨_, by first | rfl | (simp [errW_none, errW_some] <;> rfl) | (simp [*, errW_none, errW_some] <;> rfl), by first | exact Kd.R_nil _ _ _ _ _ | exact Kd.N_nil _ _ _ _ _ | exact Kd.V_nil _ _ _ _ _ | exact Kd.Q_nil _ _ _ _ _ | exact Kd.S_nil _ _ _ _ _, bw w⟩
 ·
  rw [if_neg c7] at H
  have c7b0 : (t293 == 0) = false := beq_eq_false_iff_ne.mpr c7
  have c7b1 : (t293 != 0) = true := bne_iff_ne.mpr c7
  simp only [Option.some.injEq, Prod.mk.injEq] at H
  obtain ⟨rfl, rfl, rfl⟩ := H
  go_enter Tryd.func35, Tryd.ntmps35
  go_wp2_with (first | ((with_reducible refine gate_dst (N := 5) rfl ?_); refine bxE 5 24 #[.int .i64 a0_0, .int .i64 a0_1, .slice A0_2 l0_2.length c0_2] (by rfl) (by rfl) (by first | (go_simp; done) | (go_simp; rfl)) ?_; intro gb289 hg w42 hbox hb; have BK289 := Bk.mk (hbox); have GE289 := eB w hg; replace HB := bS w hb; clear hb hbox hg; obtain ⟨hcz43_0, hcz43_1, hcz43_2, hfz43_0, hfz43_1, hfz43_2⟩ := cz3 BK289) | ((with_reducible refine gate_dst (N := 22) rfl ?_); refine Kd.R_lit (Kd.int .i64) _ 3 ?hg (N := 22) ?hd (xs := ([a1] : List Int)) (inner := [.int .i64 a1]) (ok := fun _ => True) (okp := fun _ => True) ?hr ?hp (fun _ hk => hk) trivial (Below.refl _ _) (Nat.le_refl _) (by simp) ?_; (case hd => rfl); (case hg => rfl); (case hr => first | (go_simp; done) | (go_simp; rfl)); (case hp => exact (Reps.one (show Kd.M (Kd.int .i64) _ _ _ a1 [.int .i64 a1] from rfl) (Reps.none _ _))); intro v291 w44 ho45 hb hg_ hnew_; clear hg_ hnew_; (first | rw [← Ny290.out] at ho45 | (simp only [Int.reduceToNat] at ho45; rw [← Ny290.out] at ho45)); have n0_ := Aside0.mk (Kd.R_lower ho45 (bz w)); replace BK289 := kB gb289 hb; replace HB := bS w hb; have HO292 := n0_; clear n0_ hb ho45; obtain ⟨Ao46, co46, eo46⟩ := Kd.R_slice HO292.out; subst eo46) | ((with_reducible refine gate_callee (f := 76) rfl ?_); refine goesLM (some 23) rfl rfl Tryd.func76 (by kernel_rfl) rfl #[.agg #[.int .i64 a0_0, .int .i64 a0_1, .slice A0_2 l0_2.length c0_2], .slice Ao46 y290.length co46] rfl (by rfl) ?_; (with_reducible refine (course_ask.calls k a0_0 a0_1 _ _ l0_2 _ _ y290 t293 _ ?side1 ?side2 ?side3 ?side4 A6.out).mono ?_); (case side1 => exact cP (Kd.C_below HR0_2.out HB.out)); (case side2 => exact HC0_2.out); (case side3 => exact cP (Kd.R_reads' HO292.out).2.2); (case side4 => exact (Kd.R_reads' HO292.out).2.1); rintro e w47 ⟨rfl, hb⟩; refine ⟨_, rfl, ?_⟩; replace HO292 := rB HO292 hb; replace BK289 := kB gb289 hb; replace HB := bS w hb; (try clear hb)))
  go_ret3
  exact ⟨_, by first | rfl | (simp [errW_none, errW_some] <;> rfl) | (simp [*, errW_none, errW_some] <;> rfl), by first | exact Kd.R_nil _ _ _ _ _ | exact Kd.N_nil _ _ _ _ _ | exact Kd.V_nil _ _ _ _ _ | exact Kd.Q_nil _ _ _ _ _ | exact Kd.S_nil _ _ _ _ _, bw w⟩
def snowlineref01_Rising.l0 : Nat → List Int → Int → Option (Bool)
 | 0, _, _ => none
 | k + 1, x0, x3 => if x3 < (x0.length : Int) then (if 0 ≤ x3 then ((snowlineref01_Day.f (rd x0 x3)).bind fun t679 => (if t679 = true then (if x3 > 0 then (if 0 ≤ (wrap64 (x3 - 1)) then (if (wrap64 (x3 - 1)) < (x0.length : Int) then (if (rd x0 x3) ≤ (rd x0 (wrap64 (x3 - 1))) then (some false) else (snowlineref01_Rising.l0 k x0 (wrap64 (x3 + 1)))) else (none)) else (none)) else (snowlineref01_Rising.l0 k x0 (wrap64 (x3 + 1)))) else (some false))) else (none)) else (some true)
def snowlineref01_Rising.f (k : Nat) (l0 : List Int) : Option (Bool) := if (l0.length : Int) > 64 then (some false) else (snowlineref01_Rising.l0 k l0 0)
set_option maxHeartbeats 8000000 in
set_option maxRecDepth 100000 in
theorem snowlineref01_Rising.calls (k : Nat) (A0 : Option Addr) (c0 : Nat) (l0 : List Int) (r : Bool) (w : World) (hr0 : Kd.C (Kd.int .i64) w A0 l0.length l0) (hc0 : l0.length ≤ c0) (h : snowlineref01_Rising.f k l0 = some r) :
  Calls Tryd.prog 102 #[.slice A0 l0.length c0] w fun e w' => e = .returned (.bool r) ∧ Drawn0 w w' := by
 have HR0 := Aside0.mk (hr0)
 have HC0 := Aside0.mk (hc0)
 clear hr0 hc0
 have H : (if (l0.length : Int) > 64 then (some false) else (snowlineref01_Rising.l0 k l0 0)) = some r := h
 clear h
 by_cases c2 : (l0.length : Int) > 64
 ·
  rw [if_pos c2] at H
  have c2b0 : decide (64 < (l0.length : Int)) = true := decide_eq_true c2
  have c2b1 : decide (64 < l0.length) = true := decide_eq_true (by omega)
  clear c2
  obtain rfl := Option.some.inj H
  go_enter Tryd.func102, Tryd.ntmps102
  go_wp2
  repeat (go_quiet (fail); try go_wp2)
  go_ret
  exact ⟨by first | rfl | (simp; done) | (simp [*]; done), by repeat (first | exact Drawn0.refl _ | apply Drawn0.step)⟩
 ·
  rw [if_neg c2] at H
  have c2b0 : decide (64 < (l0.length : Int)) = false := decide_eq_false c2
  have c2b1 : decide (64 < l0.length) = false := decide_eq_false (by omega)
  clear c2
  have H' := Aside0.mk H
  clear H
  go_enter Tryd.func102, Tryd.ntmps102
  go_wp2
  repeat (go_quiet (fail); try go_wp2)
  go_loopg [3] k (fun kq v3 w' => ∃ (x3_1 : Int), v3 = .int .i64 x3_1 ∧ Aside0 (snowlineref01_Rising.l0 kq l0 x3_1 = some r) ∧ Aside0 (kq ≤ k) ∧ Drawn0 w w')
  case atStart => exact ⟨(0), (by first | rfl | (simp; done) | (simp [*]; done)), H', ⟨Nat.le_refl _⟩, by repeat (first | exact Drawn0.refl _ | apply Drawn0.step)⟩
  case round =>
   clear H'
   try clear c1
   try clear c2
   try clear c2b0
   try clear c2b1
   try clear p2
   obtain ⟨x3_1, rfl, HA, HK1, ⟨m1, rfl⟩⟩ := hrel
   cases gk with
   | zero => exact absurd HA.out (by simp [snowlineref01_Rising.l0])
   | succ k1 =>
    have H := HA.out
    clear HA
    simp only [snowlineref01_Rising.l0] at H
    by_cases c3 : x3_1 < (l0.length : Int)
    ·
     rw [if_pos c3] at H
     have c3b0 : decide (x3_1 < (l0.length : Int)) = true := decide_eq_true c3
     clear c3
     by_cases c4 : 0 ≤ x3_1
     ·
      rw [if_pos c4] at H
      have c4b0 : decide (0 ≤ x3_1) = true := decide_eq_true c4
      clear c4
      replace H := Option.bind_eq_some_iff.mp H
      obtain ⟨t679, A50, H⟩ := H
      have A5 := Aside0.mk (A50)
      clear A50
      by_cases c6 : t679 = true
      ·
       subst c6
       rw [if_pos rfl] at H
       by_cases c7 : x3_1 > 0
       ·
        rw [if_pos c7] at H
        have c7b0 : decide (0 < x3_1) = true := decide_eq_true c7
        clear c7
        obtain ⟨ji8, hji8⟩ : ∃ j_ : Int, (wrap64 (x3_1 - 1)) = j_ := ⟨_, rfl⟩
        replace H : (if 0 ≤ (ji8) then (if (ji8) < (l0.length : Int) then (if (rd l0 x3_1) ≤ (rd l0 (ji8)) then (some false) else (snowlineref01_Rising.l0 k1 l0 (wrap64 (x3_1 + 1)))) else (none)) else (none)) = some r := by first | (rw [hji8] at H; exact H) | (simp only [hji8] at H ⊢; exact H)
        (try rw [hji8] at A5)
        have hji8w : (IntKind.i64.wrap (x3_1 - 1)) = ji8 := (i64_w _).trans hji8
        by_cases c9 : 0 ≤ (ji8)
        ·
         rw [if_pos c9] at H
         have c9b0 : decide (0 ≤ (ji8)) = true := decide_eq_true c9
         clear c9
         by_cases c10 : (ji8) < (l0.length : Int)
         ·
          rw [if_pos c10] at H
          have c10b0 : decide ((ji8) < (l0.length : Int)) = true := decide_eq_true c10
          clear c10
          by_cases c11 : (rd l0 x3_1) ≤ (rd l0 (ji8))
          ·
           rw [if_pos c11] at H
           have c11b0 : decide ((rd l0 x3_1) ≤ (rd l0 (ji8))) = true := decide_eq_true c11
           clear c11
           obtain rfl := Option.some.inj H
           have p678 : 0 ≤ (x3_1 : Int) := of_decide_eq_true (by first | (with_reducible assumption) | assumption)
           have q678 : x3_1 < (l0.length : Int) := of_decide_eq_true (by first | (with_reducible assumption) | assumption)
           obtain ⟨ad678, e678, hx678_0⟩ := Kd.at_int HR0.out x3_1 p678 q678
           cases e678
           replace p678 := eq_true p678
           replace q678 := eq_true q678
           go_wp2_with (first | (go_at_call 75; (with_reducible refine (snowlineref01_Day.calls (rd l0 x3_1) true _ A5.out).mono ?_); rintro e w' ⟨rfl, ⟨nd, rfl⟩⟩; (try first | exact ⟨rfl, _, World.drewN_drewN _ _ _⟩ | exact ⟨rfl, _, Eq.trans (World.drewN_drewN _ _ _) (congrArg (World.drewN _) (Nat.add_assoc _ _ _))⟩); have p680 : 0 ≤ (x3_1 : Int) := of_decide_eq_true (by first | (with_reducible assumption) | assumption); have q680 : x3_1 < (l0.length : Int) := of_decide_eq_true (by first | (with_reducible assumption) | assumption); obtain ⟨ad680, e680, hx680_0⟩ := Kd.at_int HR0.out x3_1 p680 q680; obtain rfl : ad678 = ad680 := (by injection e680); replace p680 := eq_true p680; replace q680 := eq_true q680; have p681 : 0 ≤ ((ji8) : Int) := of_decide_eq_true (by first | (with_reducible assumption) | assumption); have q681 : (ji8) < (l0.length : Int) := of_decide_eq_true (by first | (with_reducible assumption) | assumption); obtain ⟨ad681, e681, hx681_0⟩ := Kd.at_int HR0.out (ji8) p681 q681; obtain rfl : ad678 = ad681 := (by injection e681); replace p681 := eq_true p681; replace q681 := eq_true q681))
           repeat (go_quiet (first | (go_at_call 75; (with_reducible refine (snowlineref01_Day.calls (rd l0 x3_1) true _ A5.out).mono ?_); rintro e w' ⟨rfl, ⟨nd, rfl⟩⟩; (try first | exact ⟨rfl, _, World.drewN_drewN _ _ _⟩ | exact ⟨rfl, _, Eq.trans (World.drewN_drewN _ _ _) (congrArg (World.drewN _) (Nat.add_assoc _ _ _))⟩); have p680 : 0 ≤ (x3_1 : Int) := of_decide_eq_true (by first | (with_reducible assumption) | assumption); have q680 : x3_1 < (l0.length : Int) := of_decide_eq_true (by first | (with_reducible assumption) | assumption); obtain ⟨ad680, e680, hx680_0⟩ := Kd.at_int HR0.out x3_1 p680 q680; obtain rfl : ad678 = ad680 := (by injection e680); replace p680 := eq_true p680; replace q680 := eq_true q680; have p681 : 0 ≤ ((ji8) : Int) := of_decide_eq_true (by first | (with_reducible assumption) | assumption); have q681 : (ji8) < (l0.length : Int) := of_decide_eq_true (by first | (with_reducible assumption) | assumption); obtain ⟨ad681, e681, hx681_0⟩ := Kd.at_int HR0.out (ji8) p681 q681; obtain rfl : ad678 = ad681 := (by injection e681); replace p681 := eq_true p681; replace q681 := eq_true q681)); try go_wp2_with (first | (go_at_call 75; (with_reducible refine (snowlineref01_Day.calls (rd l0 x3_1) true _ A5.out).mono ?_); rintro e w' ⟨rfl, ⟨nd, rfl⟩⟩; (try first | exact ⟨rfl, _, World.drewN_drewN _ _ _⟩ | exact ⟨rfl, _, Eq.trans (World.drewN_drewN _ _ _) (congrArg (World.drewN _) (Nat.add_assoc _ _ _))⟩); have p680 : 0 ≤ (x3_1 : Int) := of_decide_eq_true (by first | (with_reducible assumption) | assumption); have q680 : x3_1 < (l0.length : Int) := of_decide_eq_true (by first | (with_reducible assumption) | assumption); obtain ⟨ad680, e680, hx680_0⟩ := Kd.at_int HR0.out x3_1 p680 q680; obtain rfl : ad678 = ad680 := (by injection e680); replace p680 := eq_true p680; replace q680 := eq_true q680; have p681 : 0 ≤ ((ji8) : Int) := of_decide_eq_true (by first | (with_reducible assumption) | assumption); have q681 : (ji8) < (l0.length : Int) := of_decide_eq_true (by first | (with_reducible assumption) | assumption); obtain ⟨ad681, e681, hx681_0⟩ := Kd.at_int HR0.out (ji8) p681 q681; obtain rfl : ad678 = ad681 := (by injection e681); replace p681 := eq_true p681; replace q681 := eq_true q681)))
           go_ret
           exact ⟨by first | rfl | (simp; done) | (simp only [← hji8] <;> (first | rfl | simp)) | (simp [*]; done), by repeat (first | exact Drawn0.refl _ | apply Drawn0.step)⟩
          ·
           rw [if_neg c11] at H
           have c11b0 : decide ((rd l0 x3_1) ≤ (rd l0 (ji8))) = false := decide_eq_false c11
           clear c11
           have H' := Aside0.mk H
           clear H
           have p678 : 0 ≤ (x3_1 : Int) := of_decide_eq_true (by first | (with_reducible assumption) | assumption)
           have q678 : x3_1 < (l0.length : Int) := of_decide_eq_true (by first | (with_reducible assumption) | assumption)
           obtain ⟨ad678, e678, hx678_0⟩ := Kd.at_int HR0.out x3_1 p678 q678
           cases e678
           replace p678 := eq_true p678
           replace q678 := eq_true q678
           go_wp2_with (first | (go_at_call 75; (with_reducible refine (snowlineref01_Day.calls (rd l0 x3_1) true _ A5.out).mono ?_); rintro e w' ⟨rfl, ⟨nd, rfl⟩⟩; (try first | exact ⟨rfl, _, World.drewN_drewN _ _ _⟩ | exact ⟨rfl, _, Eq.trans (World.drewN_drewN _ _ _) (congrArg (World.drewN _) (Nat.add_assoc _ _ _))⟩); have p680 : 0 ≤ (x3_1 : Int) := of_decide_eq_true (by first | (with_reducible assumption) | assumption); have q680 : x3_1 < (l0.length : Int) := of_decide_eq_true (by first | (with_reducible assumption) | assumption); obtain ⟨ad680, e680, hx680_0⟩ := Kd.at_int HR0.out x3_1 p680 q680; obtain rfl : ad678 = ad680 := (by injection e680); replace p680 := eq_true p680; replace q680 := eq_true q680; have p681 : 0 ≤ ((ji8) : Int) := of_decide_eq_true (by first | (with_reducible assumption) | assumption); have q681 : (ji8) < (l0.length : Int) := of_decide_eq_true (by first | (with_reducible assumption) | assumption); obtain ⟨ad681, e681, hx681_0⟩ := Kd.at_int HR0.out (ji8) p681 q681; obtain rfl : ad678 = ad681 := (by injection e681); replace p681 := eq_true p681; replace q681 := eq_true q681))
           repeat (go_quiet (first | (go_at_call 75; (with_reducible refine (snowlineref01_Day.calls (rd l0 x3_1) true _ A5.out).mono ?_); rintro e w' ⟨rfl, ⟨nd, rfl⟩⟩; (try first | exact ⟨rfl, _, World.drewN_drewN _ _ _⟩ | exact ⟨rfl, _, Eq.trans (World.drewN_drewN _ _ _) (congrArg (World.drewN _) (Nat.add_assoc _ _ _))⟩); have p680 : 0 ≤ (x3_1 : Int) := of_decide_eq_true (by first | (with_reducible assumption) | assumption); have q680 : x3_1 < (l0.length : Int) := of_decide_eq_true (by first | (with_reducible assumption) | assumption); obtain ⟨ad680, e680, hx680_0⟩ := Kd.at_int HR0.out x3_1 p680 q680; obtain rfl : ad678 = ad680 := (by injection e680); replace p680 := eq_true p680; replace q680 := eq_true q680; have p681 : 0 ≤ ((ji8) : Int) := of_decide_eq_true (by first | (with_reducible assumption) | assumption); have q681 : (ji8) < (l0.length : Int) := of_decide_eq_true (by first | (with_reducible assumption) | assumption); obtain ⟨ad681, e681, hx681_0⟩ := Kd.at_int HR0.out (ji8) p681 q681; obtain rfl : ad678 = ad681 := (by injection e681); replace p681 := eq_true p681; replace q681 := eq_true q681)); try go_wp2_with (first | (go_at_call 75; (with_reducible refine (snowlineref01_Day.calls (rd l0 x3_1) true _ A5.out).mono ?_); rintro e w' ⟨rfl, ⟨nd, rfl⟩⟩; (try first | exact ⟨rfl, _, World.drewN_drewN _ _ _⟩ | exact ⟨rfl, _, Eq.trans (World.drewN_drewN _ _ _) (congrArg (World.drewN _) (Nat.add_assoc _ _ _))⟩); have p680 : 0 ≤ (x3_1 : Int) := of_decide_eq_true (by first | (with_reducible assumption) | assumption); have q680 : x3_1 < (l0.length : Int) := of_decide_eq_true (by first | (with_reducible assumption) | assumption); obtain ⟨ad680, e680, hx680_0⟩ := Kd.at_int HR0.out x3_1 p680 q680; obtain rfl : ad678 = ad680 := (by injection e680); replace p680 := eq_true p680; replace q680 := eq_true q680; have p681 : 0 ≤ ((ji8) : Int) := of_decide_eq_true (by first | (with_reducible assumption) | assumption); have q681 : (ji8) < (l0.length : Int) := of_decide_eq_true (by first | (with_reducible assumption) | assumption); obtain ⟨ad681, e681, hx681_0⟩ := Kd.at_int HR0.out (ji8) p681 q681; obtain rfl : ad678 = ad681 := (by injection e681); replace p681 := eq_true p681; replace q681 := eq_true q681)))
           go_roundg k1
           case measure => have := HK1.out; omega
           case rel => exact ⟨(wrap64 (x3_1 + 1)), (by first | rfl | (simp; done) | (simp [*]; done)), H', ⟨by have := HK1.out; omega⟩, by repeat (first | exact Drawn0.refl _ | apply Drawn0.step)⟩
         ·
          rw [if_neg c10] at H
          exact absurd H (by simp)
        ·
         rw [if_neg c9] at H
         exact absurd H (by simp)
       ·
        rw [if_neg c7] at H
        have c7b0 : decide (0 < x3_1) = false := decide_eq_false c7
        clear c7
        have H' := Aside0.mk H
        clear H
        have p678 : 0 ≤ (x3_1 : Int) := of_decide_eq_true (by first | (with_reducible assumption) | assumption)
        have q678 : x3_1 < (l0.length : Int) := of_decide_eq_true (by first | (with_reducible assumption) | assumption)
        obtain ⟨ad678, e678, hx678_0⟩ := Kd.at_int HR0.out x3_1 p678 q678
        cases e678
        replace p678 := eq_true p678
        replace q678 := eq_true q678
        go_wp2_with (first | (go_at_call 75; (with_reducible refine (snowlineref01_Day.calls (rd l0 x3_1) true _ A5.out).mono ?_); rintro e w' ⟨rfl, ⟨nd, rfl⟩⟩; (try first | exact ⟨rfl, _, World.drewN_drewN _ _ _⟩ | exact ⟨rfl, _, Eq.trans (World.drewN_drewN _ _ _) (congrArg (World.drewN _) (Nat.add_assoc _ _ _))⟩)))
        repeat (go_quiet (first | (go_at_call 75; (with_reducible refine (snowlineref01_Day.calls (rd l0 x3_1) true _ A5.out).mono ?_); rintro e w' ⟨rfl, ⟨nd, rfl⟩⟩; (try first | exact ⟨rfl, _, World.drewN_drewN _ _ _⟩ | exact ⟨rfl, _, Eq.trans (World.drewN_drewN _ _ _) (congrArg (World.drewN _) (Nat.add_assoc _ _ _))⟩))); try go_wp2_with (first | (go_at_call 75; (with_reducible refine (snowlineref01_Day.calls (rd l0 x3_1) true _ A5.out).mono ?_); rintro e w' ⟨rfl, ⟨nd, rfl⟩⟩; (try first | exact ⟨rfl, _, World.drewN_drewN _ _ _⟩ | exact ⟨rfl, _, Eq.trans (World.drewN_drewN _ _ _) (congrArg (World.drewN _) (Nat.add_assoc _ _ _))⟩))))
        go_roundg k1
        case measure => have := HK1.out; omega
        case rel => exact ⟨(wrap64 (x3_1 + 1)), (by first | rfl | (simp; done) | (simp [*]; done)), H', ⟨by have := HK1.out; omega⟩, by repeat (first | exact Drawn0.refl _ | apply Drawn0.step)⟩
      ·
       replace c6 := Bool.eq_false_iff.mpr c6
       subst c6
       rw [if_neg (show ¬ (false = true) by decide)] at H
       obtain rfl := Option.some.inj H
       have p678 : 0 ≤ (x3_1 : Int) := of_decide_eq_true (by first | (with_reducible assumption) | assumption)
       have q678 : x3_1 < (l0.length : Int) := of_decide_eq_true (by first | (with_reducible assumption) | assumption)
       obtain ⟨ad678, e678, hx678_0⟩ := Kd.at_int HR0.out x3_1 p678 q678
       cases e678
       replace p678 := eq_true p678
       replace q678 := eq_true q678
       go_wp2_with (first | (go_at_call 75; (with_reducible refine (snowlineref01_Day.calls (rd l0 x3_1) false _ A5.out).mono ?_); rintro e w' ⟨rfl, ⟨nd, rfl⟩⟩; (try first | exact ⟨rfl, _, World.drewN_drewN _ _ _⟩ | exact ⟨rfl, _, Eq.trans (World.drewN_drewN _ _ _) (congrArg (World.drewN _) (Nat.add_assoc _ _ _))⟩)))
       repeat (go_quiet (first | (go_at_call 75; (with_reducible refine (snowlineref01_Day.calls (rd l0 x3_1) false _ A5.out).mono ?_); rintro e w' ⟨rfl, ⟨nd, rfl⟩⟩; (try first | exact ⟨rfl, _, World.drewN_drewN _ _ _⟩ | exact ⟨rfl, _, Eq.trans (World.drewN_drewN _ _ _) (congrArg (World.drewN _) (Nat.add_assoc _ _ _))⟩))); try go_wp2_with (first | (go_at_call 75; (with_reducible refine (snowlineref01_Day.calls (rd l0 x3_1) false _ A5.out).mono ?_); rintro e w' ⟨rfl, ⟨nd, rfl⟩⟩; (try first | exact ⟨rfl, _, World.drewN_drewN _ _ _⟩ | exact ⟨rfl, _, Eq.trans (World.drewN_drewN _ _ _) (congrArg (World.drewN _) (Nat.add_assoc _ _ _))⟩))))
       go_ret
       exact ⟨by first | rfl | (simp; done) | (simp [*]; done), by repeat (first | exact Drawn0.refl _ | apply Drawn0.step)⟩
     ·
      rw [if_neg c4] at H
      exact absurd H (by simp)
    ·
     rw [if_neg c3] at H
     have c3b0 : decide (x3_1 < (l0.length : Int)) = false := decide_eq_false c3
     clear c3
     obtain rfl := Option.some.inj H
     go_wp2
     repeat (go_quiet (fail); try go_wp2)
     go_ret
     exact ⟨by first | rfl | (simp; done) | (simp [*]; done), by repeat (first | exact Drawn0.refl _ | apply Drawn0.step)⟩
end Go.Proofs.YtapijkdgkajoeaaDoor.PF
end
