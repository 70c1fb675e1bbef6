/- For every input that is laid in the world, with the listed tables as the program text lays them, the law CourseMore returns true, and its arguments read as before; no condition. Part 3 of 4. -/
import Derived.Test.YtapijkdgkajoeaaDoorMoB
import Derived.KernelRfl
section
set_option linter.unusedVariables false
set_option linter.unusedSimpArgs false
set_option maxRecDepth 100000
namespace Go.Mini.Co
open Go Go.Mini
variable {X : Fz → Prop}
def closeB (f : FuncId) : Bool := (Nat.ble 14 f && Nat.ble f 37) || (Nat.beq f 44 || ((Nat.ble 46 f && Nat.ble f 54) || (Nat.ble 60 f && Nat.ble f 63 || (Nat.ble 65 f && Nat.ble f 105 || (Nat.beq f 107 || Nat.ble 111 f && Nat.ble f 115 || Nat.ble 119 f && Nat.ble f 122)))))
noncomputable def H0 : Hooks := noHooks.closing closeB
theorem H0_ok (h : HooksOK P X noHooks) : HooksOK P X H0 := h.closing closeB
noncomputable def H1 : Hooks := (H0.call1 74 h74).call1 91 h91
theorem e74 (n : Int) : evP P noHooks 74 [.i .i64 n] = bif decide (n ≥ 0) then some (.b (decide (n ≤ 1048576))) else some (.b false) := by kernel_rfl
theorem e91 (n : Int) : evP P noHooks 91 [.i .i64 n] = bif decide (n ≥ 0) then some (.b (decide (n ≤ 4095))) else some (.b false) := by kernel_rfl
theorem ok74 (h : HooksOK P X noHooks) : ∀ args v, h74 args = some (true, v) → Pure P X 74 args v := by
  intro args v hv
  unfold h74 at hv
  split at hv
  · rename_i n
    simp only [Option.some.injEq, Prod.mk.injEq, true_and] at hv
    subst hv
    refine evP_sound h ((e74 n).trans ?_)
    unfold dayB
    by_cases h0 : 0 ≤ n <;> simp [h0]
  · cases hv
theorem ok91 (h : HooksOK P X noHooks) : ∀ args v, h91 args = some (true, v) → Pure P X 91 args v := by
  intro args v hv
  unfold h91 at hv
  split at hv
  · rename_i n
    simp only [Option.some.injEq, Prod.mk.injEq, true_and] at hv
    subst hv
    refine evP_sound h ((e91 n).trans ?_)
    unfold numB
    by_cases h0 : 0 ≤ n <;> simp [h0]
  · cases hv
theorem H1_ok (h : HooksOK P X noHooks) : HooksOK P X H1 := ((H0_ok h).call1 (ok74 h)).call1 (ok91 h)
theorem e18 (a b c d : Int) : evP P H1 18 [.agg [.i .i64 a, .i .i64 b, .i .i64 c, .i .i64 d]] =
    bif !dayB a then some (.i .i64 10) else bif !dayB b then some (.i .i64 10) else bif decide (c > d) then some (.i .i64 10) else bif decide (c < -1048576) then some (.i .i64 10) else bif decide (d > 1048576) then some (.i .i64 10) else some (.i .i64 0) := by kernel_rfl
theorem ok18 (h : HooksOK P X noHooks) : ∀ args v, h18 args = some (true, v) → Pure P X 18 args v := by
  intro args v hv
  unfold h18 at hv
  split at hv
  · rename_i a b c d
    simp only [Option.some.injEq, Prod.mk.injEq, true_and] at hv
    subst hv
    refine evP_sound (H1_ok h) ((e18 a b c d).trans ?_)
    unfold okTest errB
    simp only [gt_not, lt_not]
    cases dayB a <;> cases dayB b <;> cases decide (c ≤ d) <;> cases decide (-1048576 ≤ c) <;> cases decide (d ≤ 1048576) <;> rfl
  · cases hv
theorem wMax {x y : Int} (hx : -9223372036854775808 ≤ x) (hx' : x ≤ 9223372036854775807) (hy : -9223372036854775808 ≤ y) (hy' : y ≤ 9223372036854775807) : (if w64 y > w64 x then w64 y else w64 x) = max x y := by
  rw [w64S hx hx', w64S hy hy']
  split <;> omega
theorem okTest_s {t : Test} : okTest t = true ↔ (0 ≤ t.1 ∧ t.1 ≤ 1048576) ∧ (0 ≤ t.2.1 ∧ t.2.1 ≤ 1048576) ∧ t.2.2.1 ≤ t.2.2.2.1 ∧ -1048576 ≤ t.2.2.1 ∧ t.2.2.2.1 ≤ 1048576 := by
  simp only [okTest, dayB, Bool.and_eq_true, decide_eq_true_eq]
theorem okRate_s {r : Int} : okRate r = true ↔ 0 ≤ r ∧ r ≤ 1000 := by simp only [okRate, Bool.and_eq_true, decide_eq_true_eq]
theorem mul_bnd {r x : Int} (h1 : 0 ≤ r) (h2 : r ≤ 1000) (h3 : 0 ≤ x) (h4 : x ≤ 4194304) : 0 ≤ r * x ∧ r * x ≤ 4194304000 :=
  ⟨Int.mul_nonneg h1 h3, Int.le_trans (Int.mul_le_mul h2 h4 h3 (by decide)) (by decide)⟩
theorem e70 (r a b c d e f g h : Int) : evP P (deepen P noHooks 3) 70 [.i .i64 r, .agg [.i .i64 a, .i .i64 b, .i .i64 c, .i .i64 d], .agg [.i .i64 e, .i .i64 f, .i .i64 g, .i .i64 h]] =
    some (.b (decide ((if w64 (g - d) > w64 (c - h) then w64 (g - d) else w64 (c - h)) > w64 (r * (if w64 (e - a) > w64 (a - e) then w64 (e - a) else w64 (a - e)))))) := by kernel_rfl
noncomputable def h70 : List V → Option (Bool × V)
  | [.i .i64 r, .agg [.i .i64 a, .i .i64 b, .i .i64 c, .i .i64 d], .agg [.i .i64 x, .i .i64 y, .i .i64 z, .i .i64 w]] => some (((okRate r) && ((okTest (a, b, c, d, ())) && (okTest (x, y, z, w, ())))), .b (contraB r (a, b, c, d, ()) (x, y, z, w, ())))
  | _ => none
theorem okk70 (h : HooksOK P X noHooks) (r : Int) (a : Int) (b : Int) (c : Int) (d : Int) (x : Int) (y : Int) (z : Int) (w : Int) (p0 : (okRate r) = true) (p1 : (okTest (a, b, c, d, ())) = true) (p2 : (okTest (x, y, z, w, ())) = true) : Pure P X 70 [.i .i64 r, .agg [.i .i64 a, .i .i64 b, .i .i64 c, .i .i64 d], .agg [.i .i64 x, .i .i64 y, .i .i64 z, .i .i64 w]] (.b (contraB r (a, b, c, d, ()) (x, y, z, w, ()))) := by

  obtain ⟨r1, r2⟩ := okRate_s.1 p0
  obtain ⟨⟨t1, t2⟩, _, t3, t4, t5⟩ := okTest_s.1 p1
  obtain ⟨⟨q1, q2⟩, _, q3, q4, q5⟩ := okTest_s.1 p2
  simp only at t1 t2 t3 t4 t5 q1 q2 q3 q4 q5
  refine evP_sound (deepen_ok h 3) ((e70 r a b c d x y z w).trans ?_)
  rw [wMax (x := c - w) (y := z - d) (by omega) (by omega) (by omega) (by omega), wMax (x := a - x) (y := x - a) (by omega) (by omega) (by omega) (by omega)]
  have := mul_bnd (x := max (a - x) (x - a)) r1 r2 (by omega) (by omega)
  rw [w64S (by omega) (by omega)]
  rfl
theorem ok70 (h : HooksOK P X noHooks) : ∀ args v, h70 args = some (true, v) → Pure P X 70 args v := by
  intro args v hv
  unfold h70 at hv
  split at hv
  case h_2 => cases hv
  rename_i r a b c d x y z w
  simp only [Option.some.injEq, Prod.mk.injEq, Bool.and_eq_true, eqI_s, true_and] at hv
  obtain ⟨⟨p0, p1, p2⟩, rfl⟩ := hv
  exact okk70 h _ _ _ _ _ _ _ _ _ p0 p1 p2
noncomputable def H2 : Hooks := (H1.call1 18 h18).call1 70 h70
theorem H2_ok (h : HooksOK P X noHooks) : HooksOK P X H2 := ((H1_ok h).call1 (ok18 h)).call1 (ok70 h)
/-! well -/
def S69 (no : Int) (rate : Int) (ts : List Test) (fl : Bool) (r : Int) (len : Int) (i : Int) : St :=
  ⟨[(1, .p 0 0), (2, .i .i64 r), (26, .ls T26 ts fl), (27, .i .i64 len), (28, .i .i64 i)], [.c 24 [.i .i64 no, .i .i64 rate, .ls T26 ts fl]], []⟩
theorem r69 (no rate : Int) (ts : List Test) (f : Bool) (len i : Int) : evRound P H2 69 4 (S69 no rate ts f 0 len i) =
    bif decide (i < len) then
      bif decide (0 ≤ i) && decide (i < (ts.length : Int)) then
        bif errB (okTest (ta ts (Int.toNat i))) 10 != 0 then some (.ret, S69 no rate ts f 11 len i) else
        bif decide (i > 0) then
          bif decide (0 ≤ w64 (i - 1)) && decide (w64 (i - 1) < (ts.length : Int)) then
            bif decide ((ta ts (Int.toNat (w64 (i - 1)))).2.1 > (ta ts (Int.toNat i)).2.1) then some (.ret, S69 no rate ts f 11 len i) else some (.n, S69 no rate ts f 0 len (w64 (i + 1)))
          else none
        else some (.n, S69 no rate ts f 0 len (w64 (i + 1)))
      else none
    else some (.exit 0, S69 no rate ts f 0 len i) := by kernel_rfl
noncomputable def l69 : St → Option (Tr (Ex × St))
  | ⟨[(1, .p 0 0), (2, .i .i64 r), (26, .ls [.i .i64, .i .i64, .i .i64, .i .i64] ts fl), (27, .i .i64 len), (28, .i .i64 i)], [.c 24 [.i .i64 no, .i .i64 rate, .ls [.i .i64, .i .i64, .i .i64, .i .i64] ts' fl']], []⟩ =>
    some (.test (eqI r (0) && (eqI len (ts.length) && (eqI i (0) && (eqT ts' ts && (eqB fl' fl && (lenB ts))))))
    (.test (upL (σ := Unit) (fun i _ => wellStop ts i) (fun _ s => s) (ts.length) (0) (())).1
      (.ok (.ret, ((fun i s => S69 no rate ts fl 11 ts.length i : Nat → Unit → St)) (upL (σ := Unit) (fun i _ => wellStop ts i) (fun _ s => s) (ts.length) (0) (())).2.1 (upL (σ := Unit) (fun i _ => wellStop ts i) (fun _ s => s) (ts.length) (0) (())).2.2))
      (.ok (.exit 0, ((fun i s => S69 no rate ts fl 0 ts.length i : Nat → Unit → St)) (upL (σ := Unit) (fun i _ => wellStop ts i) (fun _ s => s) (ts.length) (0) (())).2.1 (upL (σ := Unit) (fun i _ => wellStop ts i) (fun _ s => s) (ts.length) (0) (())).2.2)))
    .fail)
  | _ => none
theorem lrun69 (h : HooksOK P X noHooks) (no : Int) (rate : Int) (ts : List Test) (fl : Bool) (p0 : (lenB ts) = true) (e : Ex) (st' : St)
    (ht : (Tr.get (.test (upL (σ := Unit) (fun i _ => wellStop ts i) (fun _ s => s) (ts.length) (0) (())).1
      (.ok (.ret, ((fun i s => S69 no rate ts fl 11 ts.length i : Nat → Unit → St)) (upL (σ := Unit) (fun i _ => wellStop ts i) (fun _ s => s) (ts.length) (0) (())).2.1 (upL (σ := Unit) (fun i _ => wellStop ts i) (fun _ s => s) (ts.length) (0) (())).2.2))
      (.ok (.exit 0, ((fun i s => S69 no rate ts fl 0 ts.length i : Nat → Unit → St)) (upL (σ := Unit) (fun i _ => wellStop ts i) (fun _ s => s) (ts.length) (0) (())).2.1 (upL (σ := Unit) (fun i _ => wellStop ts i) (fun _ s => s) (ts.length) (0) (())).2.2)))) = some (e, st')) : LoopV P X 69 4 (S69 no rate ts fl (0) (ts.length) (0)) e st' := by
  refine LoopV.run (H2_ok h) (σ := Unit) (n := ts.length) (stop := fun i _ => wellStop ts i) (step := fun _ s => s) (e1 := .ret) (e2 := .exit 0) (st := (fun i s => S69 no rate ts fl 0 ts.length i : Nat → Unit → St)) (s1 := (fun i s => S69 no rate ts fl 11 ts.length i : Nat → Unit → St)) (s2 := (fun i s => S69 no rate ts fl 0 ts.length i : Nat → Unit → St)) (fun _ _ => True)
    (fun i s hinv hi hs => ?_) (by simp) (fun i s hinv hi hs => ?_) (fun s hinv => ?_) (by simp) (ts.length) (0) (()) (by omega) ?_ e st' ht

  · have hlen := lenB_s.1 p0
    rw [r69, cond_pos (by simpa using hi), cond_pos (inB (by omega) (by omega)), Int.toNat_natCast]
    unfold wellStop at hs
    cases hok : okTest (ta ts i) with
    | false => rw [cond_pos (by rfl)]
    | true =>
      rw [hok] at hs
      simp only [Bool.not_true, Bool.false_or, Bool.and_eq_true, decide_eq_true_eq] at hs
      have e1 : w64 ((i : Int) - 1) = ((i - 1 : Nat) : Int) := by rw [w64S (by omega) (by omega)]; omega
      rw [cond_neg (by rfl), cond_pos (by simp; omega), e1, cond_pos (inB (by omega) (by omega)), Int.toNat_natCast, cond_pos (by simpa using hs.2)]
  · have hlen := lenB_s.1 p0
    refine ⟨?_, trivial⟩
    have e2 : w64 ((i : Int) + 1) = ((i + 1 : Nat) : Int) := by rw [w64S (by omega) (by omega)]; omega
    rw [r69, cond_pos (by simpa using hi), cond_pos (inB (by omega) (by omega)), Int.toNat_natCast, e2]
    unfold wellStop at hs
    simp only [Bool.or_eq_false_iff, Bool.not_eq_false', Bool.and_eq_false_iff, decide_eq_false_iff_not] at hs
    obtain ⟨hok, hs⟩ := hs
    rw [hok, cond_neg (by rfl)]
    by_cases h0 : 0 < i
    · have e1 : w64 ((i : Int) - 1) = ((i - 1 : Nat) : Int) := by rw [w64S (by omega) (by omega)]; omega
      rw [cond_pos (by simpa using h0), e1, cond_pos (inB (by omega) (by omega)), Int.toNat_natCast, cond_neg (by simp; omega)]
    · rw [cond_neg (by simpa using h0)]
  · rw [r69, cond_neg (by simp)]
  · trivial
theorem lok69 (h : HooksOK P X noHooks) : ∀ st t e st', l69 st = some t → t.get = some (e, st') → LoopV P X 69 4 st e st' := by
  intro st t e st' hl ht
  unfold l69 at hl
  split at hl
  case h_2 => cases hl
  rename_i r ts fl len i no rate ts' fl'
  cases hl
  replace ht := ht
  have hc : (eqI r (0) && (eqI len (ts.length) && (eqI i (0) && (eqT ts' ts && (eqB fl' fl && (lenB ts)))))) = true := by
    cases hc : (eqI r (0) && (eqI len (ts.length) && (eqI i (0) && (eqT ts' ts && (eqB fl' fl && (lenB ts)))))) with
    | true => rfl
    | false => rw [hc] at ht; cases ht
  rw [hc] at ht
  simp only [Bool.and_eq_true, eqI_s] at hc
  obtain ⟨rfl, rfl, rfl, q_tsx, q_flx, p0⟩ := hc
  obtain rfl := eqT_s.1 q_tsx
  obtain rfl := eqB_s.1 q_flx
  exact lrun69 h _ _ _ _ p0 e st' ht
noncomputable def H3 : Hooks := H2.loop1 69 4 l69
theorem H3_ok (h : HooksOK P X noHooks) : HooksOK P X H3 := (H2_ok h).loop1 (lok69 h)
theorem e69 (no rate : Int) (ts : List Test) (f : Bool) : evP P H3 69 [.agg [.i .i64 no, .i .i64 rate, .ls T26 ts f]] =
    bif !numB no then some (.i .i64 11) else bif decide (rate < 0) then some (.i .i64 11) else bif decide (rate > 1000) then some (.i .i64 11) else bif decide ((ts.length : Int) > 64) then some (.i .i64 11) else
    bif (eqI 0 0 && (eqI (ts.length : Int) (ts.length : Int) && (eqI 0 0 && (eqT ts ts && (f == f && lenB ts))))) then
      bif (upL (σ := Unit) (fun i _ => wellStop ts i) (fun _ s => s) ts.length 0 ()).1 then some (.i .i64 11) else some (.i .i64 0)
    else none := by kernel_rfl
noncomputable def h69 : List V → Option (Bool × V)
  | [.agg [.i .i64 no, .i .i64 rate, .ls [.i .i64, .i .i64, .i .i64, .i .i64] ts fl]] => some (true, .i .i64 (errB (wellB no rate ts) 11))
  | _ => none
theorem okk69 (h : HooksOK P X noHooks) (no : Int) (rate : Int) (ts : List Test) (fl : Bool)  : Pure P X 69 [.agg [.i .i64 no, .i .i64 rate, .ls T26 ts fl]] (.i .i64 (errB (wellB no rate ts) 11)) := by

  refine evP_sound (H3_ok h) ((e69 no rate ts fl).trans ?_)
  unfold wellB errB
  have e1 : decide ((ts.length : Int) > 64) = !decide (ts.length ≤ 64) := by by_cases h0 : ts.length ≤ 64 <;> simp [h0] <;> omega
  rw [e1, lt_not, gt_not]
  cases hl : decide (ts.length ≤ 64) with
  | false => cases numB no <;> cases decide (0 ≤ rate) <;> cases decide (rate ≤ 1000) <;> rfl
  | true =>
    have : ts.length ≤ 64 := by simpa using hl
    rw [cond_pos (a := cond _ _ _) (by simp [eqI_s, eqT_s, lenB_s]; omega)]
    cases numB no <;> cases decide (0 ≤ rate) <;> cases decide (rate ≤ 1000) <;> cases (upL (σ := Unit) (fun i _ => wellStop ts i) (fun _ s => s) ts.length 0 ()).1 <;> rfl
theorem ok69 (h : HooksOK P X noHooks) : ∀ args v, h69 args = some (true, v) → Pure P X 69 args v := by
  intro args v hv
  unfold h69 at hv
  split at hv
  case h_2 => cases hv
  rename_i no rate ts fl
  simp only [Option.some.injEq, Prod.mk.injEq, Bool.and_eq_true, eqI_s, true_and] at hv
  subst hv
  exact okk69 h _ _ _ _ 
noncomputable def H4 : Hooks := H3.call1 69 h69
theorem H4_ok (h : HooksOK P X noHooks) : HooksOK P X H4 := (H3_ok h).call1 (ok69 h)
end Go.Mini.Co
end
section
set_option linter.unusedVariables false
set_option linter.unusedSimpArgs false
set_option maxRecDepth 100000
namespace Go.Mini.Co
open Go Go.Mini
variable {X : Fz → Prop}
theorem natS {i : Nat} (h : i ≤ 2000000000) : w64 ((i : Int) + 1) = ((i + 1 : Nat) : Int) := by rw [w64S (by omega) (by omega)]; omega
theorem predS {i : Nat} (h0 : 0 < i) (h : i ≤ 2000000000) : w64 ((i : Int) - 1) = ((i - 1 : Nat) : Int) := by rw [w64S (by omega) (by omega)]; omega
theorem allOk_at {ts : List Test} (h : allOk ts = true) {i : Nat} (hi : i < ts.length) : okTest (ta ts i) = true := by
  unfold ta
  rw [List.getD_eq_getElem?_getD, List.getElem?_eq_getElem hi]
  exact List.all_eq_true.1 h _ (List.getElem_mem hi)
/-! Apart -/
def S14i (no : Int) (rate : Int) (ts : List Test) (fl : Bool) (bb : Bool) (u : Int) (v : Int) (i : Int) (k : Int) (len : Int) (i2 : Int) (a : Int) (b : Int) (c : Int) (d : Int) : St :=
  ⟨[(1, .p 0 0), (2, .p 1 0), (3, .b bb), (4, .i .i64 0), (6, .i .i64 i), (7, .p 2 0), (8, .i .i64 k), (16, .ls T26 ts fl), (17, .i .i64 len), (18, .i .i64 i2)], [.c 24 [.i .i64 no, .i .i64 rate, .ls T26 ts fl], .c 28 [.i .i64 u, .i .i64 v], .c 26 [.i .i64 a, .i .i64 b, .i .i64 c, .i .i64 d]], []⟩
theorem r14i (no rate : Int) (ts : List Test) (fl : Bool) (i k len i2 a b c d : Int) : evRound P H4 14 8 (S14i no rate ts fl false 0 0 i k len i2 a b c d) =
    bif decide (k < (ts.length : Int)) then
      bif decide (0 ≤ k) && decide (k < (ts.length : Int)) then
        bif okRate rate && (okTest (a, b, c, d, ()) && okTest (ta ts (Int.toNat k))) then
          bif contraB rate (a, b, c, d, ()) (ta ts (Int.toNat k)) then some (.ret, S14i no rate ts fl true i k i k len i2 a b c d) else some (.n, S14i no rate ts fl false 0 0 i (w64 (k + 1)) len i2 a b c d)
        else none
      else none
    else some (.exit 2, S14i no rate ts fl false 0 0 i k len i2 a b c d) := by kernel_rfl
noncomputable def l14i : St → Option (Tr (Ex × St))
  | ⟨[(1, .p 0 0), (2, .p 1 0), (3, .b bb), (4, .i .i64 0), (6, .i .i64 i), (7, .p 2 0), (8, .i .i64 k), (16, .ls [.i .i64, .i .i64, .i .i64, .i .i64] ts fl), (17, .i .i64 len), (18, .i .i64 i2)], [.c 24 [.i .i64 no, .i .i64 rate, .ls [.i .i64, .i .i64, .i .i64, .i .i64] ts' fl'], .c 28 [.i .i64 u, .i .i64 v], .c 26 [.i .i64 a, .i .i64 b, .i .i64 c, .i .i64 d]], []⟩ =>
    some (.test (eqB bb (false) && (eqI u (0) && (eqI v (0) && (eqI k (((Int.toNat i + 1 : Nat) : Int)) && (eqT ts' ts && (eqB fl' fl && ((decide (Int.toNat i < ts.length)) && ((okRate rate) && ((okTest (a, b, c, d, ())) && ((allOk ts) && (lenB ts)))))))))))
    (.test (upL (σ := Unit) (fun k _ => contraB rate (a, b, c, d, ()) (ta ts k)) (fun _ s => s) (ts.length - (Int.toNat i + 1)) (Int.toNat i + 1) (())).1
      (.ok (.ret, ((fun k s => S14i no rate ts fl true i k i k len i2 a b c d : Nat → Unit → St)) (upL (σ := Unit) (fun k _ => contraB rate (a, b, c, d, ()) (ta ts k)) (fun _ s => s) (ts.length - (Int.toNat i + 1)) (Int.toNat i + 1) (())).2.1 (upL (σ := Unit) (fun k _ => contraB rate (a, b, c, d, ()) (ta ts k)) (fun _ s => s) (ts.length - (Int.toNat i + 1)) (Int.toNat i + 1) (())).2.2))
      (.ok (.exit 2, ((fun k s => S14i no rate ts fl false 0 0 i k len i2 a b c d : Nat → Unit → St)) (upL (σ := Unit) (fun k _ => contraB rate (a, b, c, d, ()) (ta ts k)) (fun _ s => s) (ts.length - (Int.toNat i + 1)) (Int.toNat i + 1) (())).2.1 (upL (σ := Unit) (fun k _ => contraB rate (a, b, c, d, ()) (ta ts k)) (fun _ s => s) (ts.length - (Int.toNat i + 1)) (Int.toNat i + 1) (())).2.2)))
    .fail)
  | _ => none
theorem lrun14i (h : HooksOK P X noHooks) (no : Int) (rate : Int) (ts : List Test) (fl : Bool) (i : Int) (len : Int) (i2 : Int) (a : Int) (b : Int) (c : Int) (d : Int) (p0 : (decide (Int.toNat i < ts.length)) = true) (p1 : (okRate rate) = true) (p2 : (okTest (a, b, c, d, ())) = true) (p3 : (allOk ts) = true) (p4 : (lenB ts) = true) (e : Ex) (st' : St)
    (ht : (Tr.get (.test (upL (σ := Unit) (fun k _ => contraB rate (a, b, c, d, ()) (ta ts k)) (fun _ s => s) (ts.length - (Int.toNat i + 1)) (Int.toNat i + 1) (())).1
      (.ok (.ret, ((fun k s => S14i no rate ts fl true i k i k len i2 a b c d : Nat → Unit → St)) (upL (σ := Unit) (fun k _ => contraB rate (a, b, c, d, ()) (ta ts k)) (fun _ s => s) (ts.length - (Int.toNat i + 1)) (Int.toNat i + 1) (())).2.1 (upL (σ := Unit) (fun k _ => contraB rate (a, b, c, d, ()) (ta ts k)) (fun _ s => s) (ts.length - (Int.toNat i + 1)) (Int.toNat i + 1) (())).2.2))
      (.ok (.exit 2, ((fun k s => S14i no rate ts fl false 0 0 i k len i2 a b c d : Nat → Unit → St)) (upL (σ := Unit) (fun k _ => contraB rate (a, b, c, d, ()) (ta ts k)) (fun _ s => s) (ts.length - (Int.toNat i + 1)) (Int.toNat i + 1) (())).2.1 (upL (σ := Unit) (fun k _ => contraB rate (a, b, c, d, ()) (ta ts k)) (fun _ s => s) (ts.length - (Int.toNat i + 1)) (Int.toNat i + 1) (())).2.2)))) = some (e, st')) : LoopV P X 14 8 (S14i no rate ts fl (false) (0) (0) i (((Int.toNat i + 1 : Nat) : Int)) len i2 a b c d) e st' := by
  refine LoopV.run (H4_ok h) (σ := Unit) (n := (Int.toNat i + 1) + (ts.length - (Int.toNat i + 1))) (stop := fun k _ => contraB rate (a, b, c, d, ()) (ta ts k)) (step := fun _ s => s) (e1 := .ret) (e2 := .exit 2) (st := (fun k s => S14i no rate ts fl false 0 0 i k len i2 a b c d : Nat → Unit → St)) (s1 := (fun k s => S14i no rate ts fl true i k i k len i2 a b c d : Nat → Unit → St)) (s2 := (fun k s => S14i no rate ts fl false 0 0 i k len i2 a b c d : Nat → Unit → St)) (fun _ _ => True)
    (fun j s hinv hi hs => ?_) (by simp) (fun j s hinv hi hs => ?_) (fun s hinv => ?_) (by simp) (ts.length - (Int.toNat i + 1)) (Int.toNat i + 1) (()) (by omega) ?_ e st' ht

  · have hlen := lenB_s.1 p4
    have hp0 : Int.toNat i < ts.length := by simpa using p0
    have hn : j < ts.length := by omega
    rw [r14i, cond_pos (by simpa using hn), cond_pos (inB (by omega) (by omega)), Int.toNat_natCast, cond_pos (by rw [p1, p2, allOk_at p3 hn]; rfl), cond_pos hs]
  · have hlen := lenB_s.1 p4
    have hp0 : Int.toNat i < ts.length := by simpa using p0
    have hn : j < ts.length := by omega
    refine ⟨?_, trivial⟩
    rw [r14i, cond_pos (by simpa using hn), cond_pos (inB (by omega) (by omega)), Int.toNat_natCast, cond_pos (by rw [p1, p2, allOk_at p3 hn]; rfl), cond_neg hs, natS (by omega)]
  · have : Int.toNat i < ts.length := by simpa using p0
    rw [r14i, cond_neg (by simp; omega)]
  · trivial
theorem lok14i (h : HooksOK P X noHooks) : ∀ st t e st', l14i st = some t → t.get = some (e, st') → LoopV P X 14 8 st e st' := by
  intro st t e st' hl ht
  unfold l14i at hl
  split at hl
  case h_2 => cases hl
  rename_i bb i k ts fl len i2 no rate ts' fl' u v a b c d
  cases hl
  replace ht := ht
  have hc : (eqB bb (false) && (eqI u (0) && (eqI v (0) && (eqI k (((Int.toNat i + 1 : Nat) : Int)) && (eqT ts' ts && (eqB fl' fl && ((decide (Int.toNat i < ts.length)) && ((okRate rate) && ((okTest (a, b, c, d, ())) && ((allOk ts) && (lenB ts))))))))))) = true := by
    cases hc : (eqB bb (false) && (eqI u (0) && (eqI v (0) && (eqI k (((Int.toNat i + 1 : Nat) : Int)) && (eqT ts' ts && (eqB fl' fl && ((decide (Int.toNat i < ts.length)) && ((okRate rate) && ((okTest (a, b, c, d, ())) && ((allOk ts) && (lenB ts))))))))))) with
    | true => rfl
    | false => rw [hc] at ht; cases ht
  rw [hc] at ht
  simp only [Bool.and_eq_true, eqI_s] at hc
  obtain ⟨q_bb, rfl, rfl, rfl, q_tsx, q_flx, p0, p1, p2, p3, p4⟩ := hc
  obtain rfl := eqB_s.1 q_bb
  obtain rfl := eqT_s.1 q_tsx
  obtain rfl := eqB_s.1 q_flx
  exact lrun14i h _ _ _ _ _ _ _ _ _ _ _ p0 p1 p2 p3 p4 e st' ht
noncomputable def H5 : Hooks := H4.loop1 14 8 l14i
theorem H5_ok (h : HooksOK P X noHooks) : HooksOK P X H5 := (H4_ok h).loop1 (lok14i h)
def S14o (no : Int) (rate : Int) (ts : List Test) (fl : Bool) (bb : Bool) (u : Int) (v : Int) (len : Int) (i : Int) : St :=
  ⟨[(1, .p 0 0), (2, .p 1 0), (3, .b bb), (4, .i .i64 0), (16, .ls T26 ts fl), (17, .i .i64 len), (18, .i .i64 i)], [.c 24 [.i .i64 no, .i .i64 rate, .ls T26 ts fl], .c 28 [.i .i64 u, .i .i64 v]], []⟩
theorem r14o (no rate : Int) (ts : List Test) (fl : Bool) (len i : Int) : evRound P H5 14 5 (S14o no rate ts fl false 0 0 len i) =
    bif decide (i < len) then
      bif decide (0 ≤ i) && decide (i < (ts.length : Int)) then
        bif eqB false false && (eqI 0 0 && (eqI 0 0 && (eqI (w64 (i + 1)) ((Int.toNat i + 1 : Nat) : Int) && (eqT ts ts && (eqB fl fl && (decide (Int.toNat i < ts.length) && (okRate rate && (okTest (ta ts (Int.toNat i)) && (allOk ts && lenB ts))))))))) then
          bif (pairK rate ts (Int.toNat i)).1 then some (.ret, S14o no rate ts fl true i (pairK rate ts (Int.toNat i)).2.1 len i) else some (.n, S14o no rate ts fl false 0 0 len (w64 (i + 1)))
        else none
      else none
    else some (.exit 0, S14o no rate ts fl false 0 0 len i) := by kernel_rfl
noncomputable def l14o : St → Option (Tr (Ex × St))
  | ⟨[(1, .p 0 0), (2, .p 1 0), (3, .b bb), (4, .i .i64 0), (16, .ls [.i .i64, .i .i64, .i .i64, .i .i64] ts fl), (17, .i .i64 len), (18, .i .i64 i)], [.c 24 [.i .i64 no, .i .i64 rate, .ls [.i .i64, .i .i64, .i .i64, .i .i64] ts' fl'], .c 28 [.i .i64 u, .i .i64 v]], []⟩ =>
    some (.test (eqB bb (false) && (eqI u (0) && (eqI v (0) && (eqI len (ts.length) && (eqI i (0) && (eqT ts' ts && (eqB fl' fl && ((okRate rate) && ((allOk ts) && (lenB ts))))))))))
    (.test (upL (σ := Unit) (fun i _ => (pairK rate ts i).1) (fun _ s => s) (ts.length) (0) (())).1
      (.ok (.ret, ((fun i s => S14o no rate ts fl true i (pairK rate ts i).2.1 ts.length i : Nat → Unit → St)) (upL (σ := Unit) (fun i _ => (pairK rate ts i).1) (fun _ s => s) (ts.length) (0) (())).2.1 (upL (σ := Unit) (fun i _ => (pairK rate ts i).1) (fun _ s => s) (ts.length) (0) (())).2.2))
      (.ok (.exit 0, ((fun i s => S14o no rate ts fl false 0 0 ts.length i : Nat → Unit → St)) (upL (σ := Unit) (fun i _ => (pairK rate ts i).1) (fun _ s => s) (ts.length) (0) (())).2.1 (upL (σ := Unit) (fun i _ => (pairK rate ts i).1) (fun _ s => s) (ts.length) (0) (())).2.2)))
    .fail)
  | _ => none
theorem lrun14o (h : HooksOK P X noHooks) (no : Int) (rate : Int) (ts : List Test) (fl : Bool) (p0 : (okRate rate) = true) (p1 : (allOk ts) = true) (p2 : (lenB ts) = true) (e : Ex) (st' : St)
    (ht : (Tr.get (.test (upL (σ := Unit) (fun i _ => (pairK rate ts i).1) (fun _ s => s) (ts.length) (0) (())).1
      (.ok (.ret, ((fun i s => S14o no rate ts fl true i (pairK rate ts i).2.1 ts.length i : Nat → Unit → St)) (upL (σ := Unit) (fun i _ => (pairK rate ts i).1) (fun _ s => s) (ts.length) (0) (())).2.1 (upL (σ := Unit) (fun i _ => (pairK rate ts i).1) (fun _ s => s) (ts.length) (0) (())).2.2))
      (.ok (.exit 0, ((fun i s => S14o no rate ts fl false 0 0 ts.length i : Nat → Unit → St)) (upL (σ := Unit) (fun i _ => (pairK rate ts i).1) (fun _ s => s) (ts.length) (0) (())).2.1 (upL (σ := Unit) (fun i _ => (pairK rate ts i).1) (fun _ s => s) (ts.length) (0) (())).2.2)))) = some (e, st')) : LoopV P X 14 5 (S14o no rate ts fl (false) (0) (0) (ts.length) (0)) e st' := by
  refine LoopV.run (H5_ok h) (σ := Unit) (n := ts.length) (stop := fun i _ => (pairK rate ts i).1) (step := fun _ s => s) (e1 := .ret) (e2 := .exit 0) (st := (fun i s => S14o no rate ts fl false 0 0 ts.length i : Nat → Unit → St)) (s1 := (fun i s => S14o no rate ts fl true i (pairK rate ts i).2.1 ts.length i : Nat → Unit → St)) (s2 := (fun i s => S14o no rate ts fl false 0 0 ts.length i : Nat → Unit → St)) (fun _ _ => True)
    (fun i s hinv hi hs => ?_) (by simp) (fun i s hinv hi hs => ?_) (fun s hinv => ?_) (by simp) (ts.length) (0) (()) (by omega) ?_ e st' ht

  · have hlen := lenB_s.1 p2
    rw [r14o, cond_pos (by simpa using hi), cond_pos (inB (by omega) (by omega)), Int.toNat_natCast, cond_pos (by simp [eqI_s, eqT_s, eqB_s, p0, p1, p2, hi, allOk_at p1 hi, natS (show i ≤ 2000000000 by omega)]), cond_pos hs]
  · have hlen := lenB_s.1 p2
    refine ⟨?_, trivial⟩
    rw [r14o, cond_pos (by simpa using hi), cond_pos (inB (by omega) (by omega)), Int.toNat_natCast, cond_pos (by simp [eqI_s, eqT_s, eqB_s, p0, p1, p2, hi, allOk_at p1 hi, natS (show i ≤ 2000000000 by omega)]), cond_neg hs, natS (by omega)]
  · rw [r14o, cond_neg (by simp)]
  · trivial
theorem lok14o (h : HooksOK P X noHooks) : ∀ st t e st', l14o st = some t → t.get = some (e, st') → LoopV P X 14 5 st e st' := by
  intro st t e st' hl ht
  unfold l14o at hl
  split at hl
  case h_2 => cases hl
  rename_i bb ts fl len i no rate ts' fl' u v
  cases hl
  replace ht := ht
  have hc : (eqB bb (false) && (eqI u (0) && (eqI v (0) && (eqI len (ts.length) && (eqI i (0) && (eqT ts' ts && (eqB fl' fl && ((okRate rate) && ((allOk ts) && (lenB ts)))))))))) = true := by
    cases hc : (eqB bb (false) && (eqI u (0) && (eqI v (0) && (eqI len (ts.length) && (eqI i (0) && (eqT ts' ts && (eqB fl' fl && ((okRate rate) && ((allOk ts) && (lenB ts)))))))))) with
    | true => rfl
    | false => rw [hc] at ht; cases ht
  rw [hc] at ht
  simp only [Bool.and_eq_true, eqI_s] at hc
  obtain ⟨q_bb, rfl, rfl, rfl, rfl, q_tsx, q_flx, p0, p1, p2⟩ := hc
  obtain rfl := eqB_s.1 q_bb
  obtain rfl := eqT_s.1 q_tsx
  obtain rfl := eqB_s.1 q_flx
  exact lrun14o h _ _ _ _ p0 p1 p2 e st' ht
noncomputable def H6 : Hooks := H5.loop1 14 5 l14o
theorem H6_ok (h : HooksOK P X noHooks) : HooksOK P X H6 := (H5_ok h).loop1 (lok14o h)
theorem wellB_len {no rate : Int} {ts : List Test} (h : wellB no rate ts = true) : ts.length ≤ 64 := by
  unfold wellB at h
  simp only [Bool.and_eq_true, decide_eq_true_eq] at h
  exact h.2.2.2.1
theorem wellB_rate {no rate : Int} {ts : List Test} (h : wellB no rate ts = true) : okRate rate = true := by
  unfold wellB at h
  simp only [Bool.and_eq_true, decide_eq_true_eq] at h
  exact okRate_s.2 ⟨h.2.1, h.2.2.1⟩
theorem wellB_ok {no rate : Int} {ts : List Test} (h : wellB no rate ts = true) : allOk ts = true := by
  unfold wellB at h
  simp only [Bool.and_eq_true, decide_eq_true_eq, Bool.not_eq_true'] at h
  have := (upU_none _ _).1 h.2.2.2.2
  unfold allOk
  rw [List.all_eq_true]
  intro x hx
  obtain ⟨i, hi, rfl⟩ := List.getElem_of_mem hx
  have h2 := this i (by omega) (by omega)
  unfold wellStop at h2
  simp only [Bool.or_eq_false_iff, Bool.not_eq_false'] at h2
  have h3 := h2.1
  unfold ta at h3
  rwa [List.getD_eq_getElem?_getD, List.getElem?_eq_getElem hi] at h3
theorem wellB_scale {no rate : Int} {ts : List Test} (h : wellB no rate ts = true) : okScale rate ts = true := by
  unfold okScale
  rw [wellB_rate h, wellB_ok h]
  have := wellB_len h
  simp only [Bool.true_and, lenB_s]; omega
theorem okScale_s {rate : Int} {ts : List Test} : okScale rate ts = true ↔ okRate rate = true ∧ allOk ts = true ∧ lenB ts = true := by simp only [okScale, Bool.and_eq_true]
theorem e14 (no rate : Int) (ts : List Test) (fl : Bool) : evP P H6 14 [.agg [.i .i64 no, .i .i64 rate, .ls T26 ts fl]] =
    bif errB (wellB no rate ts) 11 != 0 then some (.tup [.agg [.i .i64 0, .i .i64 0], .b false, .i .i64 (errB (wellB no rate ts) 11)]) else
    bif eqB false false && (eqI 0 0 && (eqI 0 0 && (eqI (ts.length : Int) (ts.length : Int) && (eqI 0 0 && (eqT ts ts && (eqB fl fl && (okRate rate && (allOk ts && lenB ts)))))))) then
      bif (pairI rate ts).1 then some (.tup [.agg [.i .i64 ((pairI rate ts).2.1 : Nat), .i .i64 ((pairK rate ts (pairI rate ts).2.1).2.1 : Nat)], .b true, .i .i64 0]) else some (.tup [.agg [.i .i64 0, .i .i64 0], .b false, .i .i64 0])
    else none := by kernel_rfl
def apI (no rate : Int) (ts : List Test) : Int := bif apartB no rate ts then ((pairI rate ts).2.1 : Nat) else 0
def apK (no rate : Int) (ts : List Test) : Int := bif apartB no rate ts then ((pairK rate ts (pairI rate ts).2.1).2.1 : Nat) else 0
noncomputable def h14 : List V → Option (Bool × V)
  | [.agg [.i .i64 no, .i .i64 rate, .ls [.i .i64, .i .i64, .i .i64, .i .i64] ts fl]] => some (true, .tup [.agg [.i .i64 (apI no rate ts), .i .i64 (apK no rate ts)], .b (apartB no rate ts), .i .i64 (errB (wellB no rate ts) 11)])
  | _ => none
theorem okk14 (h : HooksOK P X noHooks) (no : Int) (rate : Int) (ts : List Test) (fl : Bool)  : Pure P X 14 [.agg [.i .i64 no, .i .i64 rate, .ls T26 ts fl]] (.tup [.agg [.i .i64 (apI no rate ts), .i .i64 (apK no rate ts)], .b (apartB no rate ts), .i .i64 (errB (wellB no rate ts) 11)]) := by

  refine evP_sound (H6_ok h) ((e14 no rate ts fl).trans ?_)
  unfold apI apK apartB
  cases hw : wellB no rate ts with
  | false => rfl
  | true =>
    obtain ⟨h1, h2, h3⟩ := okScale_s.1 (wellB_scale hw)
    rw [cond_neg (by rfl), cond_pos (by simp [eqI_s, eqT_s, eqB_s, h1, h2, h3])]
    cases (pairI rate ts).1 <;> rfl
theorem ok14 (h : HooksOK P X noHooks) : ∀ args v, h14 args = some (true, v) → Pure P X 14 args v := by
  intro args v hv
  unfold h14 at hv
  split at hv
  case h_2 => cases hv
  rename_i no rate ts fl
  simp only [Option.some.injEq, Prod.mk.injEq, Bool.and_eq_true, eqI_s, true_and] at hv
  subst hv
  exact okk14 h _ _ _ _ 
noncomputable def H7 : Hooks := H6.call1 14 h14
theorem H7_ok (h : HooksOK P X noHooks) : HooksOK P X H7 := (H6_ok h).call1 (ok14 h)
theorem e20 (no rate : Int) (ts : List Test) (fl : Bool) : evP P H7 20 [.agg [.i .i64 no, .i .i64 rate, .ls T26 ts fl]] =
    bif apartB no rate ts then some (.i .i64 13) else some (.i .i64 (errB (wellB no rate ts) 11)) := by kernel_rfl
noncomputable def h20 : List V → Option (Bool × V)
  | [.agg [.i .i64 no, .i .i64 rate, .ls [.i .i64, .i .i64, .i .i64, .i .i64] ts fl]] => some (true, .i .i64 (scaleE no rate ts))
  | _ => none
theorem okk20 (h : HooksOK P X noHooks) (no : Int) (rate : Int) (ts : List Test) (fl : Bool)  : Pure P X 20 [.agg [.i .i64 no, .i .i64 rate, .ls T26 ts fl]] (.i .i64 (scaleE no rate ts)) := by

  refine evP_sound (H7_ok h) ((e20 no rate ts fl).trans ?_)
  unfold apartB scaleE
  cases wellB no rate ts <;> cases (pairI rate ts).1 <;> rfl
theorem ok20 (h : HooksOK P X noHooks) : ∀ args v, h20 args = some (true, v) → Pure P X 20 args v := by
  intro args v hv
  unfold h20 at hv
  split at hv
  case h_2 => cases hv
  rename_i no rate ts fl
  simp only [Option.some.injEq, Prod.mk.injEq, Bool.and_eq_true, eqI_s, true_and] at hv
  subst hv
  exact okk20 h _ _ _ _ 
noncomputable def H8 : Hooks := H7.call1 20 h20
theorem H8_ok (h : HooksOK P X noHooks) : HooksOK P X H8 := (H7_ok h).call1 (ok20 h)
/-! drift -/
theorem wDrift {r x y on : Int} (r1 : 0 ≤ r) (r2 : r ≤ 1000) (h1 : 0 ≤ x ∧ x ≤ 1048576) (h2 : 0 ≤ on ∧ on ≤ 1048576) (h3 : -1048576 ≤ y ∧ y ≤ 1048576) :
    w64 (r * (if w64 (on - x) > w64 (x - on) then w64 (on - x) else w64 (x - on))) = r * absD x on ∧ w64 (y - r * absD x on) = y - r * absD x on ∧ w64 (y + r * absD x on) = y + r * absD x on ∧ 0 ≤ r * absD x on ∧ r * absD x on ≤ 4194304000 := by
  have hb : 0 ≤ r * absD x on ∧ r * absD x on ≤ 4194304000 := mul_bnd r1 r2 (by unfold absD; omega) (by unfold absD; omega)
  rw [wMax (x := x - on) (y := on - x) (by omega) (by omega) (by omega) (by omega)]
  have e : r * max (x - on) (on - x) = r * absD x on := rfl
  rw [e]
  exact ⟨w64S (by omega) (by omega), w64S (by omega) (by omega), w64S (by omega) (by omega), hb⟩
def S77 (no : Int) (rate : Int) (ts : List Test) (fl : Bool) (on : Int) (known : Int) (lo : Int) (hi : Int) (len : Int) (i : Int) : St :=
  ⟨[(1, .i .i64 on), (2, .i .i64 known), (3, .p 0 0), (6, .p 1 0), (7, .p 2 0), (12, .ls T26 ts fl), (13, .i .i64 len), (14, .i .i64 i)], [.c 24 [.i .i64 no, .i .i64 rate, .ls T26 ts fl], .c 103 [.i .i64 0, .i .i64 0], .c 103 [.i .i64 lo, .i .i64 hi]], []⟩
noncomputable def H8d : Hooks := deepen P H8 3
theorem H8d_ok {X : Fz → Prop} (h : HooksOK P X noHooks) : HooksOK P X H8d := deepen_ok (H8_ok h) 3
theorem r77 (no rate : Int) (ts : List Test) (fl : Bool) (on known lo hi len i : Int) : evRound P H8d 77 3 (S77 no rate ts fl on known lo hi len i) =
    bif decide (i < len) then
      bif decide (0 ≤ i) && decide (i < (ts.length : Int)) then
        bif decide ((ta ts (Int.toNat i)).2.1 ≤ known) then some (.n, S77 no rate ts fl on known
           (if w64 ((ta ts (Int.toNat i)).2.2.1 - w64 (rate * (if w64 (on - (ta ts (Int.toNat i)).1) > w64 ((ta ts (Int.toNat i)).1 - on) then w64 (on - (ta ts (Int.toNat i)).1) else w64 ((ta ts (Int.toNat i)).1 - on)))) > lo then w64 ((ta ts (Int.toNat i)).2.2.1 - w64 (rate * (if w64 (on - (ta ts (Int.toNat i)).1) > w64 ((ta ts (Int.toNat i)).1 - on) then w64 (on - (ta ts (Int.toNat i)).1) else w64 ((ta ts (Int.toNat i)).1 - on)))) else lo)
           (if w64 ((ta ts (Int.toNat i)).2.2.2.1 + w64 (rate * (if w64 (on - (ta ts (Int.toNat i)).1) > w64 ((ta ts (Int.toNat i)).1 - on) then w64 (on - (ta ts (Int.toNat i)).1) else w64 ((ta ts (Int.toNat i)).1 - on)))) < hi then w64 ((ta ts (Int.toNat i)).2.2.2.1 + w64 (rate * (if w64 (on - (ta ts (Int.toNat i)).1) > w64 ((ta ts (Int.toNat i)).1 - on) then w64 (on - (ta ts (Int.toNat i)).1) else w64 ((ta ts (Int.toNat i)).1 - on)))) else hi)
           len (w64 (i + 1)))
        else some (.n, S77 no rate ts fl on known lo hi len (w64 (i + 1)))
      else none
    else some (.exit 0, S77 no rate ts fl on known lo hi len i) := by kernel_rfl
noncomputable def l77 : St → Option (Tr (Ex × St))
  | ⟨[(1, .i .i64 on), (2, .i .i64 known), (3, .p 0 0), (6, .p 1 0), (7, .p 2 0), (12, .ls [.i .i64, .i .i64, .i .i64, .i .i64] ts fl), (13, .i .i64 len), (14, .i .i64 i)], [.c 24 [.i .i64 no, .i .i64 rate, .ls [.i .i64, .i .i64, .i .i64, .i .i64] ts' fl'], .c 103 [.i .i64 0, .i .i64 0], .c 103 [.i .i64 lo, .i .i64 hi]], []⟩ =>
    some (.test (eqI lo (-1048576) && (eqI hi (1048576) && (eqI len (ts.length) && (eqI i (0) && (eqT ts' ts && (eqB fl' fl && ((okScale rate ts) && (dayB on))))))))
    (.ok (.exit 0, ((fun i s => S77 no rate ts fl on known s.1 s.2 ts.length i : Nat → Int × Int → St)) (upL (σ := Int × Int) (fun _ _ => false) (driftStep rate on known ts) (ts.length) (0) ((-1048576, 1048576))).2.1 (upL (σ := Int × Int) (fun _ _ => false) (driftStep rate on known ts) (ts.length) (0) ((-1048576, 1048576))).2.2))
    .fail)
  | _ => none
theorem lrun77 (h : HooksOK P X noHooks) (no : Int) (rate : Int) (ts : List Test) (fl : Bool) (on : Int) (known : Int) (p0 : (okScale rate ts) = true) (p1 : (dayB on) = true) (e : Ex) (st' : St)
    (ht : (Tr.get (.ok (.exit 0, ((fun i s => S77 no rate ts fl on known s.1 s.2 ts.length i : Nat → Int × Int → St)) (upL (σ := Int × Int) (fun _ _ => false) (driftStep rate on known ts) (ts.length) (0) ((-1048576, 1048576))).2.1 (upL (σ := Int × Int) (fun _ _ => false) (driftStep rate on known ts) (ts.length) (0) ((-1048576, 1048576))).2.2))) = some (e, st')) : LoopV P X 77 3 (S77 no rate ts fl on known (-1048576) (1048576) (ts.length) (0)) e st' := by
  refine LoopV.run (H8d_ok h) (σ := Int × Int) (n := ts.length) (stop := fun _ _ => false) (step := driftStep rate on known ts) (e1 := .ret) (e2 := .exit 0) (st := (fun i s => S77 no rate ts fl on known s.1 s.2 ts.length i : Nat → Int × Int → St)) (s1 := (fun i s => S77 no rate ts fl on known s.1 s.2 ts.length i : Nat → Int × Int → St)) (s2 := (fun i s => S77 no rate ts fl on known s.1 s.2 ts.length i : Nat → Int × Int → St)) (fun _ _ => True)
    (fun i s hinv hi hs => ?_) (by simp) (fun i s hinv hi hs => ?_) (fun s hinv => ?_) (by simp) (ts.length) (0) ((-1048576, 1048576)) (by omega) ?_ e st' (by rw [upF]; exact ht)

  · cases hs
  · obtain ⟨q1, q2, q3⟩ := okScale_s.1 p0
    have hlen := lenB_s.1 q3
    refine ⟨?_, trivial⟩
    rw [r77, cond_pos (by simpa using hi), cond_pos (inB (by omega) (by omega)), Int.toNat_natCast, natS (by omega)]
    obtain ⟨t1, _, t3, t4, t5⟩ := okTest_s.1 (allOk_at q2 hi)
    have hon : 0 ≤ on ∧ on ≤ 1048576 := by simpa [dayB] using p1
    obtain ⟨r1, r2⟩ := okRate_s.1 q1
    obtain ⟨w1, w2, _, b1, b2⟩ := wDrift r1 r2 t1 hon (y := (ta ts i).2.2.1) ⟨by omega, by omega⟩
    obtain ⟨_, _, w3, _, _⟩ := wDrift r1 r2 t1 hon (y := (ta ts i).2.2.2.1) ⟨by omega, by omega⟩
    rw [w1, w2, w3]
    unfold driftStep
    by_cases hk : (ta ts i).2.1 ≤ known
    · rw [cond_pos (by simpa using hk), cond_pos (by simpa using hk)]
      have e1 : (if (ta ts i).2.2.1 - rate * absD (ta ts i).1 on > s.1 then (ta ts i).2.2.1 - rate * absD (ta ts i).1 on else s.1) = max s.1 ((ta ts i).2.2.1 - rate * absD (ta ts i).1 on) := by split <;> omega
      have e2 : (if (ta ts i).2.2.2.1 + rate * absD (ta ts i).1 on < s.2 then (ta ts i).2.2.2.1 + rate * absD (ta ts i).1 on else s.2) = min s.2 ((ta ts i).2.2.2.1 + rate * absD (ta ts i).1 on) := by split <;> omega
      rw [e1, e2]
    · rw [cond_neg (by simpa using hk), cond_neg (by simpa using hk)]
  · rw [r77, cond_neg (by simp)]
  · trivial
theorem lok77 (h : HooksOK P X noHooks) : ∀ st t e st', l77 st = some t → t.get = some (e, st') → LoopV P X 77 3 st e st' := by
  intro st t e st' hl ht
  unfold l77 at hl
  split at hl
  case h_2 => cases hl
  rename_i on known ts fl len i no rate ts' fl' lo hi
  cases hl
  replace ht := ht
  have hc : (eqI lo (-1048576) && (eqI hi (1048576) && (eqI len (ts.length) && (eqI i (0) && (eqT ts' ts && (eqB fl' fl && ((okScale rate ts) && (dayB on)))))))) = true := by
    cases hc : (eqI lo (-1048576) && (eqI hi (1048576) && (eqI len (ts.length) && (eqI i (0) && (eqT ts' ts && (eqB fl' fl && ((okScale rate ts) && (dayB on)))))))) with
    | true => rfl
    | false => rw [hc] at ht; cases ht
  rw [hc] at ht
  simp only [Bool.and_eq_true, eqI_s] at hc
  obtain ⟨rfl, rfl, rfl, rfl, q_tsx, q_flx, p0, p1⟩ := hc
  obtain rfl := eqT_s.1 q_tsx
  obtain rfl := eqB_s.1 q_flx
  exact lrun77 h _ _ _ _ _ _ p0 p1 e st' ht
noncomputable def H9 : Hooks := H8.loop1 77 3 l77
theorem H9_ok (h : HooksOK P X noHooks) : HooksOK P X H9 := (H8_ok h).loop1 (lok77 h)
theorem e77 (no rate : Int) (ts : List Test) (fl : Bool) (on known : Int) : evP P (deepen P H9 3) 77 [.agg [.i .i64 no, .i .i64 rate, .ls T26 ts fl], .i .i64 on, .i .i64 known] =
    bif eqI (-1048576) (-1048576) && (eqI 1048576 1048576 && (eqI (ts.length : Int) (ts.length : Int) && (eqI 0 0 && (eqT ts ts && (eqB fl fl && (okScale rate ts && dayB on)))))) then
      some (.agg [.i .i64 (driftS rate ts on known).1, .i .i64 (driftS rate ts on known).2])
    else none := by kernel_rfl
noncomputable def h77 : List V → Option (Bool × V)
  | [.agg [.i .i64 no, .i .i64 rate, .ls [.i .i64, .i .i64, .i .i64, .i .i64] ts fl], .i .i64 on, .i .i64 known] => some (((okScale rate ts) && (dayB on)), .agg [.i .i64 (driftS rate ts on known).1, .i .i64 (driftS rate ts on known).2])
  | _ => none
theorem okk77 (h : HooksOK P X noHooks) (no : Int) (rate : Int) (ts : List Test) (fl : Bool) (on : Int) (known : Int) (p0 : (okScale rate ts) = true) (p1 : (dayB on) = true) : Pure P X 77 [.agg [.i .i64 no, .i .i64 rate, .ls T26 ts fl], .i .i64 on, .i .i64 known] (.agg [.i .i64 (driftS rate ts on known).1, .i .i64 (driftS rate ts on known).2]) := by

  refine evP_sound (deepen_ok (H9_ok h) 3) ((e77 no rate ts fl on known).trans ?_)
  rw [cond_pos (by simp [eqI_s, eqT_s, eqB_s, p0, p1])]
theorem ok77 (h : HooksOK P X noHooks) : ∀ args v, h77 args = some (true, v) → Pure P X 77 args v := by
  intro args v hv
  unfold h77 at hv
  split at hv
  case h_2 => cases hv
  rename_i no rate ts fl on known
  simp only [Option.some.injEq, Prod.mk.injEq, Bool.and_eq_true, eqI_s, true_and] at hv
  obtain ⟨⟨p0, p1⟩, rfl⟩ := hv
  exact okk77 h _ _ _ _ _ _ p0 p1
noncomputable def H10 : Hooks := H9.call1 77 h77
theorem H10_ok (h : HooksOK P X noHooks) : HooksOK P X H10 := (H9_ok h).call1 (ok77 h)
end Go.Mini.Co
end
section
set_option linter.unusedVariables false
set_option linter.unusedSimpArgs false
set_option maxRecDepth 100000
namespace Go.Mini.Co
open Go Go.Mini
variable {X : Fz → Prop}
theorem upL_inv {σ : Type} {stop : Nat → σ → Bool} {step : Nat → σ → σ} (I : σ → Prop) : ∀ (k i : Nat) (s : σ), I s → (∀ j s, i ≤ j → j < i + k → I s → I (step j s)) → I (upL stop step k i s).2.2
  | 0, _, _, h, _ => h
  | k + 1, i, s, h, hs => by
    simp only [upL]
    cases stop i s with
    | true => exact h
    | false => exact upL_inv I k (i + 1) _ (hs i s (by omega) (by omega) h) (fun j s h1 h2 => hs j s (by omega) (by omega))
theorem drift_bnd {rate on known : Int} {ts : List Test} (h : okScale rate ts = true) : -1048576 ≤ (driftS rate ts on known).1 ∧ (driftS rate ts on known).1 ≤ 1048576 ∧ -1048576 ≤ (driftS rate ts on known).2 ∧ (driftS rate ts on known).2 ≤ 1048576 := by
  obtain ⟨q1, q2, q3⟩ := okScale_s.1 h
  obtain ⟨r1, r2⟩ := okRate_s.1 q1
  unfold driftS
  refine upL_inv (fun s : Int × Int => -1048576 ≤ s.1 ∧ s.1 ≤ 1048576 ∧ -1048576 ≤ s.2 ∧ s.2 ≤ 1048576) _ _ _ (by decide) (fun j s h1 h2 hI => ?_)
  unfold driftStep
  cases decide ((ta ts j).2.1 ≤ known) with
  | false => exact hI
  | true =>
    obtain ⟨t1, _, t3, t4, t5⟩ := okTest_s.1 (allOk_at q2 (show j < ts.length by omega))
    have : 0 ≤ rate * absD (ta ts j).1 on := Int.mul_nonneg r1 (by unfold absD; omega)
    simp only [cond_true]
    omega
/-! turn -/
theorem e79 (no rate a b known : Int) (ts : List Test) (fl : Bool) : evP P (deepen P H10 3) 79 [.agg [.i .i64 no, .i .i64 rate, .ls T26 ts fl], .i .i64 a, .i .i64 b, .i .i64 known] =
    bif okScale rate ts && dayB a then
      bif okScale rate ts && dayB b then some (.agg [.i .i64 (if w64 (0 - w64 (rate * (if w64 (b - a) > w64 (a - b) then w64 (b - a) else w64 (a - b)))) > w64 ((driftS rate ts b known).1 - (driftS rate ts a known).2) then w64 (0 - w64 (rate * (if w64 (b - a) > w64 (a - b) then w64 (b - a) else w64 (a - b)))) else w64 ((driftS rate ts b known).1 - (driftS rate ts a known).2)),
          .i .i64 (if w64 (0 + w64 (rate * (if w64 (b - a) > w64 (a - b) then w64 (b - a) else w64 (a - b)))) < w64 ((driftS rate ts b known).2 - (driftS rate ts a known).1) then w64 (0 + w64 (rate * (if w64 (b - a) > w64 (a - b) then w64 (b - a) else w64 (a - b)))) else w64 ((driftS rate ts b known).2 - (driftS rate ts a known).1))])
      else none
    else none := by kernel_rfl
noncomputable def h79 : List V → Option (Bool × V)
  | [.agg [.i .i64 no, .i .i64 rate, .ls [.i .i64, .i .i64, .i .i64, .i .i64] ts fl], .i .i64 a, .i .i64 b, .i .i64 known] => some (((okScale rate ts) && ((dayB a) && (dayB b))), .agg [.i .i64 (turnS rate ts a b known).1, .i .i64 (turnS rate ts a b known).2])
  | _ => none
theorem okk79 (h : HooksOK P X noHooks) (no : Int) (rate : Int) (ts : List Test) (fl : Bool) (a : Int) (b : Int) (known : Int) (p0 : (okScale rate ts) = true) (p1 : (dayB a) = true) (p2 : (dayB b) = true) : Pure P X 79 [.agg [.i .i64 no, .i .i64 rate, .ls T26 ts fl], .i .i64 a, .i .i64 b, .i .i64 known] (.agg [.i .i64 (turnS rate ts a b known).1, .i .i64 (turnS rate ts a b known).2]) := by

  obtain ⟨q1, q2, q3⟩ := okScale_s.1 p0
  obtain ⟨r1, r2⟩ := okRate_s.1 q1
  have ha : 0 ≤ a ∧ a ≤ 1048576 := by simpa [dayB] using p1
  have hb : 0 ≤ b ∧ b ≤ 1048576 := by simpa [dayB] using p2
  obtain ⟨w1, w2, w3, b1, b2⟩ := wDrift (y := 0) r1 r2 ha hb (by decide)
  have d1 := drift_bnd (on := a) (known := known) p0
  have d2 := drift_bnd (on := b) (known := known) p0
  refine evP_sound (deepen_ok (H10_ok h) 3) ((e79 no rate a b known ts fl).trans ?_)
  rw [cond_pos (by rw [p0, p1]; rfl), cond_pos (by rw [p0, p2]; rfl), w1, w2, w3, w64S (n := (driftS rate ts b known).1 - (driftS rate ts a known).2) (by omega) (by omega), w64S (n := (driftS rate ts b known).2 - (driftS rate ts a known).1) (by omega) (by omega)]
  unfold turnS
  have e1 : (if 0 - rate * absD a b > (driftS rate ts b known).1 - (driftS rate ts a known).2 then 0 - rate * absD a b else (driftS rate ts b known).1 - (driftS rate ts a known).2) = max ((driftS rate ts b known).1 - (driftS rate ts a known).2) (-(rate * absD a b)) := by split <;> omega
  have e2 : (if 0 + rate * absD a b < (driftS rate ts b known).2 - (driftS rate ts a known).1 then 0 + rate * absD a b else (driftS rate ts b known).2 - (driftS rate ts a known).1) = min ((driftS rate ts b known).2 - (driftS rate ts a known).1) (rate * absD a b) := by split <;> omega
  rw [e1, e2]
theorem ok79 (h : HooksOK P X noHooks) : ∀ args v, h79 args = some (true, v) → Pure P X 79 args v := by
  intro args v hv
  unfold h79 at hv
  split at hv
  case h_2 => cases hv
  rename_i no rate ts fl a b known
  simp only [Option.some.injEq, Prod.mk.injEq, Bool.and_eq_true, eqI_s, true_and] at hv
  obtain ⟨⟨p0, p1, p2⟩, rfl⟩ := hv
  exact okk79 h _ _ _ _ _ _ _ p0 p1 p2
noncomputable def H11 : Hooks := H10.call1 79 h79
theorem H11_ok (h : HooksOK P X noHooks) : HooksOK P X H11 := (H10_ok h).call1 (ok79 h)
/-! ask -/
def S76 (no : Int) (rate : Int) (ts : List Test) (fl : Bool) (r : Int) (l : List (Int × Unit)) (lf : Bool) (len : Int) (i : Int) : St :=
  ⟨[(4, .i .i64 r), (13, .ls T3 l lf), (14, .i .i64 len), (15, .i .i64 i)], [.c 24 [.i .i64 no, .i .i64 rate, .ls T26 ts fl]], []⟩
theorem r76 (no rate : Int) (ts : List Test) (fl : Bool) (l : List (Int × Unit)) (lf : Bool) (len i : Int) : evRound P H11 76 5 (S76 no rate ts fl 0 l lf len i) =
    bif decide (i < len) then
      bif decide (0 ≤ i) && decide (i < (l.length : Int)) then
        bif !dayB (ra l (Int.toNat i)).1 then some (.ret, S76 no rate ts fl 1 l lf len i) else some (.n, S76 no rate ts fl 0 l lf len (w64 (i + 1)))
      else none
    else some (.exit 0, S76 no rate ts fl 0 l lf len i) := by kernel_rfl
noncomputable def l76 : St → Option (Tr (Ex × St))
  | ⟨[(4, .i .i64 r), (13, .ls [.i .i64] l lf), (14, .i .i64 len), (15, .i .i64 i)], [.c 24 [.i .i64 no, .i .i64 rate, .ls [.i .i64, .i .i64, .i .i64, .i .i64] ts fl]], []⟩ =>
    some (.test (eqI r (0) && (eqI len (l.length) && (eqI i (0) && (lenB l))))
    (.test (upL (σ := Unit) (fun i _ => !dayB (ra l i).1) (fun _ s => s) (l.length) (0) (())).1
      (.ok (.ret, ((fun i s => S76 no rate ts fl 1 l lf l.length i : Nat → Unit → St)) (upL (σ := Unit) (fun i _ => !dayB (ra l i).1) (fun _ s => s) (l.length) (0) (())).2.1 (upL (σ := Unit) (fun i _ => !dayB (ra l i).1) (fun _ s => s) (l.length) (0) (())).2.2))
      (.ok (.exit 0, ((fun i s => S76 no rate ts fl 0 l lf l.length i : Nat → Unit → St)) (upL (σ := Unit) (fun i _ => !dayB (ra l i).1) (fun _ s => s) (l.length) (0) (())).2.1 (upL (σ := Unit) (fun i _ => !dayB (ra l i).1) (fun _ s => s) (l.length) (0) (())).2.2)))
    .fail)
  | _ => none
theorem lrun76 (h : HooksOK P X noHooks) (no : Int) (rate : Int) (ts : List Test) (fl : Bool) (l : List (Int × Unit)) (lf : Bool) (p0 : (lenB l) = true) (e : Ex) (st' : St)
    (ht : (Tr.get (.test (upL (σ := Unit) (fun i _ => !dayB (ra l i).1) (fun _ s => s) (l.length) (0) (())).1
      (.ok (.ret, ((fun i s => S76 no rate ts fl 1 l lf l.length i : Nat → Unit → St)) (upL (σ := Unit) (fun i _ => !dayB (ra l i).1) (fun _ s => s) (l.length) (0) (())).2.1 (upL (σ := Unit) (fun i _ => !dayB (ra l i).1) (fun _ s => s) (l.length) (0) (())).2.2))
      (.ok (.exit 0, ((fun i s => S76 no rate ts fl 0 l lf l.length i : Nat → Unit → St)) (upL (σ := Unit) (fun i _ => !dayB (ra l i).1) (fun _ s => s) (l.length) (0) (())).2.1 (upL (σ := Unit) (fun i _ => !dayB (ra l i).1) (fun _ s => s) (l.length) (0) (())).2.2)))) = some (e, st')) : LoopV P X 76 5 (S76 no rate ts fl (0) l lf (l.length) (0)) e st' := by
  refine LoopV.run (H11_ok h) (σ := Unit) (n := l.length) (stop := fun i _ => !dayB (ra l i).1) (step := fun _ s => s) (e1 := .ret) (e2 := .exit 0) (st := (fun i s => S76 no rate ts fl 0 l lf l.length i : Nat → Unit → St)) (s1 := (fun i s => S76 no rate ts fl 1 l lf l.length i : Nat → Unit → St)) (s2 := (fun i s => S76 no rate ts fl 0 l lf l.length i : Nat → Unit → St)) (fun _ _ => True)
    (fun i s hinv hi hs => ?_) (by simp) (fun i s hinv hi hs => ?_) (fun s hinv => ?_) (by simp) (l.length) (0) (()) (by omega) ?_ e st' ht

  · have hlen := lenB_s.1 p0
    rw [r76, cond_pos (by simpa using hi), cond_pos (inB (by omega) (by omega)), Int.toNat_natCast, cond_pos hs]
  · have hlen := lenB_s.1 p0
    refine ⟨?_, trivial⟩
    rw [r76, cond_pos (by simpa using hi), cond_pos (inB (by omega) (by omega)), Int.toNat_natCast, cond_neg hs, natS (by omega)]
  · rw [r76, cond_neg (by simp)]
  · trivial
theorem lok76 (h : HooksOK P X noHooks) : ∀ st t e st', l76 st = some t → t.get = some (e, st') → LoopV P X 76 5 st e st' := by
  intro st t e st' hl ht
  unfold l76 at hl
  split at hl
  case h_2 => cases hl
  rename_i r l lf len i no rate ts fl
  cases hl
  replace ht := ht
  have hc : (eqI r (0) && (eqI len (l.length) && (eqI i (0) && (lenB l)))) = true := by
    cases hc : (eqI r (0) && (eqI len (l.length) && (eqI i (0) && (lenB l)))) with
    | true => rfl
    | false => rw [hc] at ht; cases ht
  rw [hc] at ht
  simp only [Bool.and_eq_true, eqI_s] at hc
  obtain ⟨rfl, rfl, rfl, p0⟩ := hc
  exact lrun76 h _ _ _ _ _ _ p0 e st' ht
noncomputable def H12 : Hooks := H11.loop1 76 5 l76
theorem H12_ok (h : HooksOK P X noHooks) : HooksOK P X H12 := (H11_ok h).loop1 (lok76 h)
theorem e76 (no rate : Int) (ts : List Test) (fl : Bool) (l : List (Int × Unit)) (lf : Bool) : evP P H12 76 [.agg [.i .i64 no, .i .i64 rate, .ls T26 ts fl], .ls T3 l lf] =
    bif scaleE no rate ts != 0 then some (.i .i64 (scaleE no rate ts)) else
    bif eqI 0 0 && (eqI (l.length : Int) (l.length : Int) && (eqI 0 0 && lenB l)) then
      bif (daysU l).1 then some (.i .i64 1) else some (.i .i64 0)
    else none := by kernel_rfl
theorem neq0 (n : Int) : (n != 0) = !eqI n 0 := by
  unfold eqI
  by_cases h : n = 0 <;> simp [h]
noncomputable def h76 : List V → Option (Bool × V)
  | [.agg [.i .i64 no, .i .i64 rate, .ls [.i .i64, .i .i64, .i .i64, .i .i64] ts fl], .ls [.i .i64] l lf] => some ((lenB l), .i .i64 (askE no rate ts l))
  | _ => none
theorem okk76 (h : HooksOK P X noHooks) (no : Int) (rate : Int) (ts : List Test) (fl : Bool) (l : List (Int × Unit)) (lf : Bool) (p0 : (lenB l) = true) : Pure P X 76 [.agg [.i .i64 no, .i .i64 rate, .ls T26 ts fl], .ls T3 l lf] (.i .i64 (askE no rate ts l)) := by

  refine evP_sound (H12_ok h) ((e76 no rate ts fl l lf).trans ?_)
  unfold askE
  rw [neq0]
  cases eqI (scaleE no rate ts) 0 with
  | false => rfl
  | true =>
    rw [cond_neg (by rfl), cond_pos (by simp [eqI_s, p0])]
    cases (daysU l).1 <;> rfl
theorem ok76 (h : HooksOK P X noHooks) : ∀ args v, h76 args = some (true, v) → Pure P X 76 args v := by
  intro args v hv
  unfold h76 at hv
  split at hv
  case h_2 => cases hv
  rename_i no rate ts fl l lf
  simp only [Option.some.injEq, Prod.mk.injEq, Bool.and_eq_true, eqI_s, true_and] at hv
  obtain ⟨p0, rfl⟩ := hv
  exact okk76 h _ _ _ _ _ _ p0
noncomputable def H13 : Hooks := H12.call1 76 h76
theorem H13_ok (h : HooksOK P X noHooks) : HooksOK P X H13 := (H12_ok h).call1 (ok76 h)
theorem scaleE_0 {no rate : Int} {ts : List Test} (h : scaleE no rate ts = 0) : wellB no rate ts = true ∧ (pairI rate ts).1 = false := by
  unfold scaleE at h
  cases hw : wellB no rate ts with
  | false => rw [hw] at h; cases h
  | true =>
    rw [hw, cond_true] at h
    cases hp : (pairI rate ts).1 with
    | true => rw [hp] at h; cases h
    | false => exact ⟨rfl, rfl⟩
theorem daysU_none {l : List (Int × Unit)} : (daysU l).1 = false ↔ ∀ i, i < l.length → dayB (ra l i).1 = true := by
  unfold daysU
  rw [upU_none (stop := fun i => !dayB (ra l i).1)]
  simp
theorem askE_0 {no rate : Int} {ts : List Test} {l : List (Int × Unit)} (h : askE no rate ts l = 0) : scaleE no rate ts = 0 ∧ ∀ i, i < l.length → dayB (ra l i).1 = true := by
  unfold askE at h
  cases hs : eqI (scaleE no rate ts) 0 with
  | false =>
    rw [hs, cond_false] at h
    rw [h] at hs; cases hs
  | true =>
    rw [hs, cond_true] at h
    cases hd : (daysU l).1 with
    | true => rw [hd] at h; cases h
    | false => exact ⟨eqI_s.1 hs, daysU_none.1 hd⟩
theorem askE_ok {no rate : Int} {ts : List Test} {l : List (Int × Unit)} (h : askE no rate ts l = 0) : okScale rate ts = true := wellB_scale (scaleE_0 (askE_0 h).1).1
/-! Drift, Turn -/
theorem e23 (no rate a known : Int) (ts : List Test) (fl : Bool) : evP P H13 23 [.agg [.i .i64 no, .i .i64 rate, .ls T26 ts fl], .i .i64 a, .i .i64 known] =
    bif askE no rate ts [(a, ()), (known, ())] != 0 then some (.tup [.agg [.i .i64 0, .i .i64 0], .i .i64 (askE no rate ts [(a, ()), (known, ())])]) else
    bif okScale rate ts && dayB a then some (.tup [.agg [.i .i64 (driftS rate ts a known).1, .i .i64 (driftS rate ts a known).2], .i .i64 0]) else none := by kernel_rfl
noncomputable def h23 : List V → Option (Bool × V)
  | [.agg [.i .i64 no, .i .i64 rate, .ls [.i .i64, .i .i64, .i .i64, .i .i64] ts fl], .i .i64 a, .i .i64 known] => some (true, .tup [.agg [.i .i64 (spanIf (askE no rate ts [(a, ()), (known, ())]) (driftS rate ts a known).1), .i .i64 (spanIf (askE no rate ts [(a, ()), (known, ())]) (driftS rate ts a known).2)], .i .i64 (askE no rate ts [(a, ()), (known, ())])])
  | _ => none
theorem okk23 (h : HooksOK P X noHooks) (no : Int) (rate : Int) (ts : List Test) (fl : Bool) (a : Int) (known : Int)  : Pure P X 23 [.agg [.i .i64 no, .i .i64 rate, .ls T26 ts fl], .i .i64 a, .i .i64 known] (.tup [.agg [.i .i64 (spanIf (askE no rate ts [(a, ()), (known, ())]) (driftS rate ts a known).1), .i .i64 (spanIf (askE no rate ts [(a, ()), (known, ())]) (driftS rate ts a known).2)], .i .i64 (askE no rate ts [(a, ()), (known, ())])]) := by

  refine evP_sound (H13_ok h) ((e23 no rate a known ts fl).trans ?_)
  rw [neq0]
  unfold spanIf
  cases he : eqI (askE no rate ts [(a, ()), (known, ())]) 0 with
  | false => rfl
  | true =>
    have h0 := eqI_s.1 he
    rw [cond_neg (by rfl), cond_pos (by rw [askE_ok h0, show dayB a = true from (askE_0 h0).2 0 (by simp)]; rfl), h0]
    rfl
theorem ok23 (h : HooksOK P X noHooks) : ∀ args v, h23 args = some (true, v) → Pure P X 23 args v := by
  intro args v hv
  unfold h23 at hv
  split at hv
  case h_2 => cases hv
  rename_i no rate ts fl a known
  simp only [Option.some.injEq, Prod.mk.injEq, Bool.and_eq_true, eqI_s, true_and] at hv
  subst hv
  exact okk23 h _ _ _ _ _ _ 
theorem e25 (no rate a b known : Int) (ts : List Test) (fl : Bool) : evP P H13 25 [.agg [.i .i64 no, .i .i64 rate, .ls T26 ts fl], .i .i64 a, .i .i64 b, .i .i64 known] =
    bif askE no rate ts [(a, ()), (b, ()), (known, ())] != 0 then some (.tup [.agg [.i .i64 0, .i .i64 0], .i .i64 (askE no rate ts [(a, ()), (b, ()), (known, ())])]) else
    bif okScale rate ts && (dayB a && dayB b) then some (.tup [.agg [.i .i64 (turnS rate ts a b known).1, .i .i64 (turnS rate ts a b known).2], .i .i64 0]) else none := by kernel_rfl
noncomputable def h25 : List V → Option (Bool × V)
  | [.agg [.i .i64 no, .i .i64 rate, .ls [.i .i64, .i .i64, .i .i64, .i .i64] ts fl], .i .i64 a, .i .i64 b, .i .i64 known] => some (true, .tup [.agg [.i .i64 (spanIf (askE no rate ts [(a, ()), (b, ()), (known, ())]) (turnS rate ts a b known).1), .i .i64 (spanIf (askE no rate ts [(a, ()), (b, ()), (known, ())]) (turnS rate ts a b known).2)], .i .i64 (askE no rate ts [(a, ()), (b, ()), (known, ())])])
  | _ => none
theorem okk25 (h : HooksOK P X noHooks) (no : Int) (rate : Int) (ts : List Test) (fl : Bool) (a : Int) (b : Int) (known : Int)  : Pure P X 25 [.agg [.i .i64 no, .i .i64 rate, .ls T26 ts fl], .i .i64 a, .i .i64 b, .i .i64 known] (.tup [.agg [.i .i64 (spanIf (askE no rate ts [(a, ()), (b, ()), (known, ())]) (turnS rate ts a b known).1), .i .i64 (spanIf (askE no rate ts [(a, ()), (b, ()), (known, ())]) (turnS rate ts a b known).2)], .i .i64 (askE no rate ts [(a, ()), (b, ()), (known, ())])]) := by

  refine evP_sound (H13_ok h) ((e25 no rate a b known ts fl).trans ?_)
  rw [neq0]
  unfold spanIf
  cases he : eqI (askE no rate ts [(a, ()), (b, ()), (known, ())]) 0 with
  | false => rfl
  | true =>
    have h0 := eqI_s.1 he
    rw [cond_neg (by rfl), cond_pos (by rw [askE_ok h0, show dayB a = true from (askE_0 h0).2 0 (by simp), show dayB b = true from (askE_0 h0).2 1 (by simp)]; rfl), h0]
    rfl
theorem ok25 (h : HooksOK P X noHooks) : ∀ args v, h25 args = some (true, v) → Pure P X 25 args v := by
  intro args v hv
  unfold h25 at hv
  split at hv
  case h_2 => cases hv
  rename_i no rate ts fl a b known
  simp only [Option.some.injEq, Prod.mk.injEq, Bool.and_eq_true, eqI_s, true_and] at hv
  subst hv
  exact okk25 h _ _ _ _ _ _ _ 
noncomputable def H14 : Hooks := (H13.call1 23 h23).call1 25 h25
theorem H14_ok (h : HooksOK P X noHooks) : HooksOK P X H14 := ((H13_ok h).call1 (ok23 h)).call1 (ok25 h)
end Go.Mini.Co
end
section
set_option linter.unusedVariables false
set_option linter.unusedSimpArgs false
set_option maxRecDepth 100000
namespace Go.Mini.Co
open Go Go.Mini
variable {X : Fz → Prop}
/-! rising, possible, History -/
def S97 (l : List (Int × Unit)) (lf : Bool) (len : Int) (i : Int) : St :=
  ⟨[(0, .ls T3 l lf), (2, .b false), (5, .ls T3 l lf), (6, .i .i64 len), (7, .i .i64 i)], [], []⟩
theorem r97 (l : List (Int × Unit)) (lf : Bool) (len i : Int) : evRound P H14 97 2 (S97 l lf len i) =
    bif decide (i < len) then
      bif decide (0 ≤ i) && decide (i < (l.length : Int)) then
        bif !dayB (ra l (Int.toNat i)).1 then some (.ret, S97 l lf len i) else
        bif decide (i > 0) then
          bif decide (0 ≤ w64 (i - 1)) && decide (w64 (i - 1) < (l.length : Int)) then
            bif decide ((ra l (Int.toNat (w64 (i - 1)))).1 ≥ (ra l (Int.toNat i)).1) then some (.ret, S97 l lf len i) else some (.n, S97 l lf len (w64 (i + 1)))
          else none
        else some (.n, S97 l lf len (w64 (i + 1)))
      else none
    else some (.exit 0, S97 l lf len i) := by kernel_rfl
noncomputable def l97 : St → Option (Tr (Ex × St))
  | ⟨[(0, .ls [.i .i64] l lf), (2, .b false), (5, .ls [.i .i64] l' lf'), (6, .i .i64 len), (7, .i .i64 i)], [], []⟩ =>
    some (.test (eqI len (l.length) && (eqI i (0) && (eqL l' l && (eqB lf' lf && (lenB l)))))
    (.test (upL (σ := Unit) (fun i _ => riseStop l i) (fun _ s => s) (l.length) (0) (())).1
      (.ok (.ret, ((fun i s => S97 l lf l.length i : Nat → Unit → St)) (upL (σ := Unit) (fun i _ => riseStop l i) (fun _ s => s) (l.length) (0) (())).2.1 (upL (σ := Unit) (fun i _ => riseStop l i) (fun _ s => s) (l.length) (0) (())).2.2))
      (.ok (.exit 0, ((fun i s => S97 l lf l.length i : Nat → Unit → St)) (upL (σ := Unit) (fun i _ => riseStop l i) (fun _ s => s) (l.length) (0) (())).2.1 (upL (σ := Unit) (fun i _ => riseStop l i) (fun _ s => s) (l.length) (0) (())).2.2)))
    .fail)
  | _ => none
theorem lrun97 (h : HooksOK P X noHooks) (l : List (Int × Unit)) (lf : Bool) (p0 : (lenB l) = true) (e : Ex) (st' : St)
    (ht : (Tr.get (.test (upL (σ := Unit) (fun i _ => riseStop l i) (fun _ s => s) (l.length) (0) (())).1
      (.ok (.ret, ((fun i s => S97 l lf l.length i : Nat → Unit → St)) (upL (σ := Unit) (fun i _ => riseStop l i) (fun _ s => s) (l.length) (0) (())).2.1 (upL (σ := Unit) (fun i _ => riseStop l i) (fun _ s => s) (l.length) (0) (())).2.2))
      (.ok (.exit 0, ((fun i s => S97 l lf l.length i : Nat → Unit → St)) (upL (σ := Unit) (fun i _ => riseStop l i) (fun _ s => s) (l.length) (0) (())).2.1 (upL (σ := Unit) (fun i _ => riseStop l i) (fun _ s => s) (l.length) (0) (())).2.2)))) = some (e, st')) : LoopV P X 97 2 (S97 l lf (l.length) (0)) e st' := by
  refine LoopV.run (H14_ok h) (σ := Unit) (n := l.length) (stop := fun i _ => riseStop l i) (step := fun _ s => s) (e1 := .ret) (e2 := .exit 0) (st := (fun i s => S97 l lf l.length i : Nat → Unit → St)) (s1 := (fun i s => S97 l lf l.length i : Nat → Unit → St)) (s2 := (fun i s => S97 l lf l.length i : Nat → Unit → St)) (fun _ _ => True)
    (fun i s hinv hi hs => ?_) (by simp) (fun i s hinv hi hs => ?_) (fun s hinv => ?_) (by simp) (l.length) (0) (()) (by omega) ?_ e st' ht

  · have hlen := lenB_s.1 p0
    rw [r97, cond_pos (by simpa using hi), cond_pos (inB (by omega) (by omega)), Int.toNat_natCast]
    unfold riseStop at hs
    cases hd : dayB (ra l i).1 with
    | false => rw [cond_pos (by rfl)]
    | true =>
      rw [hd] at hs
      simp only [Bool.not_true, Bool.false_or, Bool.and_eq_true, decide_eq_true_eq] at hs
      rw [cond_neg (by rfl), cond_pos (by simp; omega), predS hs.1 (by omega), cond_pos (inB (by omega) (by omega)), Int.toNat_natCast, cond_pos (by simpa using hs.2)]
  · have hlen := lenB_s.1 p0
    refine ⟨?_, trivial⟩
    rw [r97, cond_pos (by simpa using hi), cond_pos (inB (by omega) (by omega)), Int.toNat_natCast, natS (by omega)]
    unfold riseStop at hs
    simp only [Bool.or_eq_false_iff, Bool.not_eq_false', Bool.and_eq_false_iff, decide_eq_false_iff_not] at hs
    obtain ⟨hd, hs⟩ := hs
    rw [hd, cond_neg (by rfl)]
    by_cases h0 : 0 < i
    · rw [cond_pos (by simpa using h0), predS h0 (by omega), cond_pos (inB (by omega) (by omega)), Int.toNat_natCast, cond_neg (by simp; omega)]
    · rw [cond_neg (by simpa using h0)]
  · rw [r97, cond_neg (by simp)]
  · trivial
theorem lok97 (h : HooksOK P X noHooks) : ∀ st t e st', l97 st = some t → t.get = some (e, st') → LoopV P X 97 2 st e st' := by
  intro st t e st' hl ht
  unfold l97 at hl
  split at hl
  case h_2 => cases hl
  rename_i l lf l' lf' len i
  cases hl
  replace ht := ht
  have hc : (eqI len (l.length) && (eqI i (0) && (eqL l' l && (eqB lf' lf && (lenB l))))) = true := by
    cases hc : (eqI len (l.length) && (eqI i (0) && (eqL l' l && (eqB lf' lf && (lenB l))))) with
    | true => rfl
    | false => rw [hc] at ht; cases ht
  rw [hc] at ht
  simp only [Bool.and_eq_true, eqI_s] at hc
  obtain ⟨rfl, rfl, q_lx, q_lfx, p0⟩ := hc
  obtain rfl := eqL_s.1 q_lx
  obtain rfl := eqB_s.1 q_lfx
  exact lrun97 h _ _ p0 e st' ht
noncomputable def H15 : Hooks := H14.loop1 97 2 l97
theorem H15_ok (h : HooksOK P X noHooks) : HooksOK P X H15 := (H14_ok h).loop1 (lok97 h)
theorem e97 (l : List (Int × Unit)) (lf : Bool) : evP P H15 97 [.ls T3 l lf] =
    bif eqI (l.length : Int) (l.length : Int) && (eqI 0 0 && (eqL l l && (eqB lf lf && lenB l))) then
      bif (riseU l).1 then some (.b false) else some (.b (decide ((l.length : Int) ≤ 64)))
    else none := by kernel_rfl
noncomputable def h97 : List V → Option (Bool × V)
  | [.ls [.i .i64] l lf] => some ((lenB l), .b (riseB l))
  | _ => none
theorem okk97 (h : HooksOK P X noHooks) (l : List (Int × Unit)) (lf : Bool) (p0 : (lenB l) = true) : Pure P X 97 [.ls T3 l lf] (.b (riseB l)) := by

  refine evP_sound (H15_ok h) ((e97 l lf).trans ?_)
  rw [cond_pos (by simp [eqI_s, eqL_s, eqB_s, p0])]
  unfold riseB
  cases (riseU l).1 with
  | true => rfl
  | false =>
    have : decide ((l.length : Int) ≤ 64) = decide (l.length ≤ 64) := by by_cases h0 : l.length ≤ 64 <;> simp [h0] <;> omega
    rw [this]; rfl
theorem ok97 (h : HooksOK P X noHooks) : ∀ args v, h97 args = some (true, v) → Pure P X 97 args v := by
  intro args v hv
  unfold h97 at hv
  split at hv
  case h_2 => cases hv
  rename_i l lf
  simp only [Option.some.injEq, Prod.mk.injEq, Bool.and_eq_true, eqI_s, true_and] at hv
  obtain ⟨p0, rfl⟩ := hv
  exact okk97 h _ _ p0
noncomputable def H16 : Hooks := H15.call1 97 h97
theorem H16_ok (h : HooksOK P X noHooks) : HooksOK P X H16 := (H15_ok h).call1 (ok97 h)
noncomputable def H16d : Hooks := deepen P H16 3
theorem H16d_ok (h : HooksOK P X noHooks) : HooksOK P X H16d := deepen_ok (H16_ok h) 3
theorem daysOk_at {l : List (Int × Unit)} (h : daysOk l = true) {i : Nat} (hi : i < l.length) : dayB (ra l i).1 = true := by
  unfold ra
  rw [List.getD_eq_getElem?_getD, List.getElem?_eq_getElem hi]
  exact List.all_eq_true.1 h _ (List.getElem_mem hi)
theorem wPoss {r x y a b : Int} (r1 : 0 ≤ r) (r2 : r ≤ 1000) (hx : -1048576 ≤ x ∧ x ≤ 1048576) (hy : -1048576 ≤ y ∧ y ≤ 1048576) (ha : 0 ≤ a ∧ a ≤ 1048576) (hb : 0 ≤ b ∧ b ≤ 1048576) :
    (!decide ((if w64 (x - y) > w64 (y - x) then w64 (x - y) else w64 (y - x)) ≤ w64 (r * w64 (a - b)))) = !decide (absD x y ≤ r * (a - b)) := by
  rw [wMax (x := y - x) (y := x - y) (by omega) (by omega) (by omega) (by omega), w64S (n := a - b) (by omega) (by omega)]
  have h1 : r * (a - b) ≤ 4194304000 ∧ -4194304000 ≤ r * (a - b) := by
    rcases Int.le_total 0 (a - b) with h | h
    · have := mul_bnd r1 r2 h (by omega); omega
    · have := mul_bnd r1 r2 (x := b - a) (by omega) (by omega)
      have e : r * (a - b) = -(r * (b - a)) := by rw [← Int.mul_neg]; congr 1; omega
      omega
  rw [w64S (by omega) (by omega)]
  have e : max (y - x) (x - y) = absD x y := by unfold absD; omega
  rw [e]
def S98 (no : Int) (rate : Int) (ts : List Test) (fl : Bool) (known : Int) (l : List (Int × Unit)) (lf : Bool) (g : List (Int × Unit)) (gf : Bool) (len : Int) (i : Int) : St :=
  ⟨[(1, .i .i64 known), (2, .ls T3 l lf), (3, .ls T3 g gf), (4, .p 0 0), (8, .b false), (12, .ls T3 l lf), (13, .i .i64 len), (14, .i .i64 i)], [.c 24 [.i .i64 no, .i .i64 rate, .ls T26 ts fl]], []⟩
theorem r98 (no rate : Int) (ts : List Test) (fl : Bool) (known : Int) (l : List (Int × Unit)) (lf : Bool) (g : List (Int × Unit)) (gf : Bool) (len i : Int) : evRound P H16d 98 2 (S98 no rate ts fl known l lf g gf len i) =
    bif decide (i < len) then
     bif decide (0 ≤ i) && decide (i < (l.length : Int)) then
      bif okScale rate ts && dayB (ra l (Int.toNat i)).1 then
       bif decide (0 ≤ i) && decide (i < (g.length : Int)) then
        bif decide ((ra g (Int.toNat i)).1 < (driftS rate ts (ra l (Int.toNat i)).1 known).1) then some (.ret, S98 no rate ts fl known l lf g gf len i) else
         bif decide (0 ≤ i) && decide (i < (g.length : Int)) then
          bif decide ((ra g (Int.toNat i)).1 > (driftS rate ts (ra l (Int.toNat i)).1 known).2) then some (.ret, S98 no rate ts fl known l lf g gf len i) else
           bif decide (i > 0) then
            bif decide (0 ≤ w64 (i - 1)) && decide (w64 (i - 1) < (g.length : Int)) then
             bif decide (0 ≤ i) && decide (i < (g.length : Int)) then
              bif decide (0 ≤ w64 (i - 1)) && decide (w64 (i - 1) < (l.length : Int)) then
               bif !decide ((if w64 ((ra g (Int.toNat i)).1 - (ra g (Int.toNat (w64 (i - 1)))).1) > w64 ((ra g (Int.toNat (w64 (i - 1)))).1 - (ra g (Int.toNat i)).1) then w64 ((ra g (Int.toNat i)).1 - (ra g (Int.toNat (w64 (i - 1)))).1) else w64 ((ra g (Int.toNat (w64 (i - 1)))).1 - (ra g (Int.toNat i)).1)) ≤ w64 (rate * w64 ((ra l (Int.toNat i)).1 - (ra l (Int.toNat (w64 (i - 1)))).1))) then some (.ret, S98 no rate ts fl known l lf g gf len i)
               else some (.n, S98 no rate ts fl known l lf g gf len (w64 (i + 1)))
              else none
             else none
            else none
           else some (.n, S98 no rate ts fl known l lf g gf len (w64 (i + 1)))
         else none
       else none
      else none
     else none
    else some (.exit 0, S98 no rate ts fl known l lf g gf len i) := by kernel_rfl
noncomputable def l98 : St → Option (Tr (Ex × St))
  | ⟨[(1, .i .i64 known), (2, .ls [.i .i64] l lf), (3, .ls [.i .i64] g gf), (4, .p 0 0), (8, .b false), (12, .ls [.i .i64] l' lf'), (13, .i .i64 len), (14, .i .i64 i)], [.c 24 [.i .i64 no, .i .i64 rate, .ls [.i .i64, .i .i64, .i .i64, .i .i64] ts fl]], []⟩ =>
    some (.test (eqI len (l.length) && (eqI i (0) && (eqL l' l && (eqB lf' lf && ((okScale rate ts) && ((daysOk l) && ((lenB l) && (sameLen l g))))))))
    (.test (upL (σ := Unit) (fun i _ => possStop rate ts known l g i) (fun _ s => s) (l.length) (0) (())).1
      (.ok (.ret, ((fun i s => S98 no rate ts fl known l lf g gf l.length i : Nat → Unit → St)) (upL (σ := Unit) (fun i _ => possStop rate ts known l g i) (fun _ s => s) (l.length) (0) (())).2.1 (upL (σ := Unit) (fun i _ => possStop rate ts known l g i) (fun _ s => s) (l.length) (0) (())).2.2))
      (.ok (.exit 0, ((fun i s => S98 no rate ts fl known l lf g gf l.length i : Nat → Unit → St)) (upL (σ := Unit) (fun i _ => possStop rate ts known l g i) (fun _ s => s) (l.length) (0) (())).2.1 (upL (σ := Unit) (fun i _ => possStop rate ts known l g i) (fun _ s => s) (l.length) (0) (())).2.2)))
    .fail)
  | _ => none
theorem lrun98 (h : HooksOK P X noHooks) (no : Int) (rate : Int) (ts : List Test) (fl : Bool) (known : Int) (l : List (Int × Unit)) (lf : Bool) (g : List (Int × Unit)) (gf : Bool) (p0 : (okScale rate ts) = true) (p1 : (daysOk l) = true) (p2 : (lenB l) = true) (p3 : (sameLen l g) = true) (e : Ex) (st' : St)
    (ht : (Tr.get (.test (upL (σ := Unit) (fun i _ => possStop rate ts known l g i) (fun _ s => s) (l.length) (0) (())).1
      (.ok (.ret, ((fun i s => S98 no rate ts fl known l lf g gf l.length i : Nat → Unit → St)) (upL (σ := Unit) (fun i _ => possStop rate ts known l g i) (fun _ s => s) (l.length) (0) (())).2.1 (upL (σ := Unit) (fun i _ => possStop rate ts known l g i) (fun _ s => s) (l.length) (0) (())).2.2))
      (.ok (.exit 0, ((fun i s => S98 no rate ts fl known l lf g gf l.length i : Nat → Unit → St)) (upL (σ := Unit) (fun i _ => possStop rate ts known l g i) (fun _ s => s) (l.length) (0) (())).2.1 (upL (σ := Unit) (fun i _ => possStop rate ts known l g i) (fun _ s => s) (l.length) (0) (())).2.2)))) = some (e, st')) : LoopV P X 98 2 (S98 no rate ts fl known l lf g gf (l.length) (0)) e st' := by
  refine LoopV.run (H16d_ok h) (σ := Unit) (n := l.length) (stop := fun i _ => possStop rate ts known l g i) (step := fun _ s => s) (e1 := .ret) (e2 := .exit 0) (st := (fun i s => S98 no rate ts fl known l lf g gf l.length i : Nat → Unit → St)) (s1 := (fun i s => S98 no rate ts fl known l lf g gf l.length i : Nat → Unit → St)) (s2 := (fun i s => S98 no rate ts fl known l lf g gf l.length i : Nat → Unit → St)) (fun i _ => 0 < i → -1048576 ≤ (ra g (i - 1)).1 ∧ (ra g (i - 1)).1 ≤ 1048576)
    (fun i s hinv hi hs => ?_) (by simp) (fun i s hinv hi hs => ?_) (fun s hinv => ?_) (by simp) (l.length) (0) (()) (by omega) ?_ e st' ht

  · have hlen := lenB_s.1 p2
    have hlg := sameLen_s.1 p3
    have hday := daysOk_at p1 hi
    rw [r98, cond_pos (by simpa using hi), cond_pos (inB (by omega) (by omega)), Int.toNat_natCast, cond_pos (by rw [p0, hday]; rfl), cond_pos (inB (by omega) (by omega))]
    unfold possStop at hs
    cases c1 : decide ((ra g i).1 < (driftS rate ts (ra l i).1 known).1) with
    | true => rw [cond_true]
    | false =>
      rw [cond_false, cond_pos (inB (by omega) (by omega))]
      cases c2 : decide ((ra g i).1 > (driftS rate ts (ra l i).1 known).2) with
      | true => rw [cond_true]
      | false =>
        rw [cond_false]
        rw [c1, c2] at hs
        simp only [Bool.false_or, Bool.and_eq_true, decide_eq_true_eq] at hs
        obtain ⟨h0, hs⟩ := hs
        have b := drift_bnd (on := (ra l i).1) (known := known) p0
        have c1 : ¬ _ := of_decide_eq_false c1
        have c2 : ¬ _ := of_decide_eq_false c2
        have hp := hinv h0
        obtain ⟨r1, r2⟩ := okRate_s.1 (okScale_s.1 p0).1
        have hd1 : 0 ≤ (ra l i).1 ∧ (ra l i).1 ≤ 1048576 := by simpa [dayB] using hday
        have hd2 : 0 ≤ (ra l (i - 1)).1 ∧ (ra l (i - 1)).1 ≤ 1048576 := by simpa [dayB] using daysOk_at p1 (show i - 1 < l.length by omega)
        rw [cond_pos (by simpa using h0), predS h0 (by omega), cond_pos (inB (by omega) (by omega)), cond_pos (inB (by omega) (by omega)), cond_pos (inB (by omega) (by omega)), Int.toNat_natCast, wPoss r1 r2 ⟨by omega, by omega⟩ hp hd1 hd2, cond_pos hs]
  · have hlen := lenB_s.1 p2
    have hlg := sameLen_s.1 p3
    have hday := daysOk_at p1 hi
    unfold possStop at hs
    simp only [Bool.or_eq_false_iff] at hs
    obtain ⟨⟨c1, c2⟩, hs⟩ := hs
    have b := drift_bnd (on := (ra l i).1) (known := known) p0
    have c1' : ¬ _ := of_decide_eq_false c1
    have c2' : ¬ _ := of_decide_eq_false c2
    refine ⟨?_, fun _ => by rw [Nat.add_sub_cancel]; exact ⟨by omega, by omega⟩⟩
    rw [r98, cond_pos (by simpa using hi), cond_pos (inB (by omega) (by omega)), Int.toNat_natCast, cond_pos (by rw [p0, hday]; rfl), cond_pos (inB (by omega) (by omega)), cond_neg c1, cond_pos (inB (by omega) (by omega)), cond_neg c2, natS (by omega)]
    by_cases h0 : 0 < i
    · have hp := hinv h0
      obtain ⟨r1, r2⟩ := okRate_s.1 (okScale_s.1 p0).1
      have hd1 : 0 ≤ (ra l i).1 ∧ (ra l i).1 ≤ 1048576 := by simpa [dayB] using hday
      have hd2 : 0 ≤ (ra l (i - 1)).1 ∧ (ra l (i - 1)).1 ≤ 1048576 := by simpa [dayB] using daysOk_at p1 (show i - 1 < l.length by omega)
      rw [show decide (0 < i) = true by simpa using h0, Bool.true_and] at hs
      rw [cond_pos (by simpa using h0), predS h0 (by omega), cond_pos (inB (by omega) (by omega)), cond_pos (inB (by omega) (by omega)), cond_pos (inB (by omega) (by omega)), Int.toNat_natCast, wPoss r1 r2 ⟨by omega, by omega⟩ hp hd1 hd2, cond_neg hs]
    · rw [cond_neg (by simpa using h0)]
  · rw [r98, cond_neg (by simp)]
  · intro h0; omega
theorem lok98 (h : HooksOK P X noHooks) : ∀ st t e st', l98 st = some t → t.get = some (e, st') → LoopV P X 98 2 st e st' := by
  intro st t e st' hl ht
  unfold l98 at hl
  split at hl
  case h_2 => cases hl
  rename_i known l lf g gf l' lf' len i no rate ts fl
  cases hl
  replace ht := ht
  have hc : (eqI len (l.length) && (eqI i (0) && (eqL l' l && (eqB lf' lf && ((okScale rate ts) && ((daysOk l) && ((lenB l) && (sameLen l g)))))))) = true := by
    cases hc : (eqI len (l.length) && (eqI i (0) && (eqL l' l && (eqB lf' lf && ((okScale rate ts) && ((daysOk l) && ((lenB l) && (sameLen l g)))))))) with
    | true => rfl
    | false => rw [hc] at ht; cases ht
  rw [hc] at ht
  simp only [Bool.and_eq_true, eqI_s] at hc
  obtain ⟨rfl, rfl, q_lx, q_lfx, p0, p1, p2, p3⟩ := hc
  obtain rfl := eqL_s.1 q_lx
  obtain rfl := eqB_s.1 q_lfx
  exact lrun98 h _ _ _ _ _ _ _ _ _ p0 p1 p2 p3 e st' ht
noncomputable def H17 : Hooks := H16.loop1 98 2 l98
theorem H17_ok (h : HooksOK P X noHooks) : HooksOK P X H17 := (H16_ok h).loop1 (lok98 h)
theorem e98 (no rate : Int) (ts : List Test) (fl : Bool) (known : Int) (l : List (Int × Unit)) (lf : Bool) (g : List (Int × Unit)) (gf : Bool) : evP P (deepen P H17 3) 98 [.agg [.i .i64 no, .i .i64 rate, .ls T26 ts fl], .i .i64 known, .ls T3 l lf, .ls T3 g gf] =
    bif eqI (l.length : Int) (l.length : Int) && (eqI 0 0 && (eqL l l && (eqB lf lf && (okScale rate ts && (daysOk l && (lenB l && sameLen l g)))))) then
      bif (upL (σ := Unit) (fun i _ => possStop rate ts known l g i) (fun _ s => s) l.length 0 ()).1 then some (.b false) else some (.b true)
    else none := by kernel_rfl
noncomputable def h98 : List V → Option (Bool × V)
  | [.agg [.i .i64 no, .i .i64 rate, .ls [.i .i64, .i .i64, .i .i64, .i .i64] ts fl], .i .i64 known, .ls [.i .i64] l lf, .ls [.i .i64] g gf] => some (((okScale rate ts) && ((daysOk l) && ((lenB l) && (sameLen l g)))), .b (possB rate ts known l g))
  | _ => none
theorem okk98 (h : HooksOK P X noHooks) (no : Int) (rate : Int) (ts : List Test) (fl : Bool) (known : Int) (l : List (Int × Unit)) (lf : Bool) (g : List (Int × Unit)) (gf : Bool) (p0 : (okScale rate ts) = true) (p1 : (daysOk l) = true) (p2 : (lenB l) = true) (p3 : (sameLen l g) = true) : Pure P X 98 [.agg [.i .i64 no, .i .i64 rate, .ls T26 ts fl], .i .i64 known, .ls T3 l lf, .ls T3 g gf] (.b (possB rate ts known l g)) := by

  refine evP_sound (deepen_ok (H17_ok h) 3) ((e98 no rate ts fl known l lf g gf).trans ?_)
  rw [cond_pos (by simp [eqI_s, eqL_s, eqB_s, p0, p1, p2, p3])]
  unfold possB
  cases (upL (σ := Unit) (fun i _ => possStop rate ts known l g i) (fun _ s => s) l.length 0 ()).1 <;> rfl
theorem ok98 (h : HooksOK P X noHooks) : ∀ args v, h98 args = some (true, v) → Pure P X 98 args v := by
  intro args v hv
  unfold h98 at hv
  split at hv
  case h_2 => cases hv
  rename_i no rate ts fl known l lf g gf
  simp only [Option.some.injEq, Prod.mk.injEq, Bool.and_eq_true, eqI_s, true_and] at hv
  obtain ⟨⟨p0, p1, p2, p3⟩, rfl⟩ := hv
  exact okk98 h _ _ _ _ _ _ _ _ _ p0 p1 p2 p3
noncomputable def H18 : Hooks := H17.call1 98 h98
theorem H18_ok (h : HooksOK P X noHooks) : HooksOK P X H18 := (H17_ok h).call1 (ok98 h)
theorem riseB_days {l : List (Int × Unit)} (h : riseB l = true) : daysOk l = true := by
  unfold riseB at h
  simp only [Bool.and_eq_true, Bool.not_eq_true'] at h
  have h1 := (upU_none (stop := riseStop l) _ _).1 h.1
  unfold daysOk
  rw [List.all_eq_true]
  intro x hx
  obtain ⟨i, hi, rfl⟩ := List.getElem_of_mem hx
  have h2 := h1 i (by omega) (by omega)
  unfold riseStop at h2
  simp only [Bool.or_eq_false_iff, Bool.not_eq_false'] at h2
  have h3 := h2.1
  unfold ra at h3
  rwa [List.getD_eq_getElem?_getD, List.getElem?_eq_getElem hi] at h3
theorem e33 (no rate : Int) (ts : List Test) (fl : Bool) (known : Int) (l : List (Int × Unit)) (lf : Bool) (g : List (Int × Unit)) (gf : Bool) : evP P H18 33 [.agg [.i .i64 no, .i .i64 rate, .ls T26 ts fl], .i .i64 known, .ls T3 l lf, .ls T3 g gf] =
    bif askE no rate ts [(known, ())] != 0 then some (.tup [.b false, .i .i64 (askE no rate ts [(known, ())])]) else
    bif (l.length : Int) != (g.length : Int) then some (.tup [.b false, .i .i64 1]) else
    bif lenB l then
      bif !riseB l then some (.tup [.b false, .i .i64 1]) else
      bif okScale rate ts && (daysOk l && (lenB l && sameLen l g)) then some (.tup [.b (possB rate ts known l g), .i .i64 0]) else none
    else none := by kernel_rfl
noncomputable def h33 : List V → Option (Bool × V)
  | [.agg [.i .i64 no, .i .i64 rate, .ls [.i .i64, .i .i64, .i .i64, .i .i64] ts fl], .i .i64 known, .ls [.i .i64] l lf, .ls [.i .i64] g gf] => some ((lenB l), .tup [.b (histB no rate ts known l g), .i .i64 (histE no rate ts known l g)])
  | _ => none
theorem okk33 (h : HooksOK P X noHooks) (no : Int) (rate : Int) (ts : List Test) (fl : Bool) (known : Int) (l : List (Int × Unit)) (lf : Bool) (g : List (Int × Unit)) (gf : Bool) (p0 : (lenB l) = true) : Pure P X 33 [.agg [.i .i64 no, .i .i64 rate, .ls T26 ts fl], .i .i64 known, .ls T3 l lf, .ls T3 g gf] (.tup [.b (histB no rate ts known l g), .i .i64 (histE no rate ts known l g)]) := by

  refine evP_sound (H18_ok h) ((e33 no rate ts fl known l lf g gf).trans ?_)
  rw [neq0]
  unfold histB histE
  cases he : eqI (askE no rate ts [(known, ())]) 0 with
  | false =>
    simp only [cond_false, Bool.not_false, cond_true, he]
  | true =>
    have h0 := eqI_s.1 he
    have e1 : ((l.length : Int) != (g.length : Int)) = !sameLen l g := by
      unfold sameLen
      by_cases h1 : l.length = g.length
      · simp [h1]
      · simp [h1]; omega
    rw [cond_neg (by rfl), e1]
    cases hl : sameLen l g with
    | false => rfl
    | true =>
      rw [cond_neg (by rfl), cond_pos p0]
      cases hr : riseB l with
      | false => rfl
      | true =>
        rw [cond_neg (by rfl), cond_pos (by rw [askE_ok h0, riseB_days hr, p0]; rfl)]
        rfl
theorem ok33 (h : HooksOK P X noHooks) : ∀ args v, h33 args = some (true, v) → Pure P X 33 args v := by
  intro args v hv
  unfold h33 at hv
  split at hv
  case h_2 => cases hv
  rename_i no rate ts fl known l lf g gf
  simp only [Option.some.injEq, Prod.mk.injEq, Bool.and_eq_true, eqI_s, true_and] at hv
  obtain ⟨p0, rfl⟩ := hv
  exact okk33 h _ _ _ _ _ _ _ _ _ p0
noncomputable def H19 : Hooks := H18.call1 33 h33
theorem H19_ok (h : HooksOK P X noHooks) : HooksOK P X H19 := (H18_ok h).call1 (ok33 h)
end Go.Mini.Co
end
section
set_option linter.unusedVariables false
set_option linter.unusedSimpArgs false
set_option maxRecDepth 100000
namespace Go.Mini.Co
open Go Go.Mini
variable {X : Fz → Prop}
/-! CourseEnds: the closure, the loop. -/
theorem spanIf_bnd {no rate : Int} {ts : List Test} {l : List (Int × Unit)} {on known : Int} : -1048576 ≤ spanIf (askE no rate ts l) (driftS rate ts on known).1 ∧ spanIf (askE no rate ts l) (driftS rate ts on known).1 ≤ 1048576 ∧ -1048576 ≤ spanIf (askE no rate ts l) (driftS rate ts on known).2 ∧ spanIf (askE no rate ts l) (driftS rate ts on known).2 ≤ 1048576 := by
  unfold spanIf
  cases he : eqI (askE no rate ts l) 0 with
  | false => simp
  | true => exact drift_bnd (askE_ok (eqI_s.1 he))
def reLo (zlo lo n : Int) : Int := max lo (zlo - n)
def reHi (zhi hi n : Int) : Int := min hi (zhi - n)
def reachB (no rate : Int) (ts : List Test) (a b day lo hi n : Int) : Bool :=
  bif decide (n < -4194304) || decide (n > 4194304) then false else
  bif !eqI (askE no rate ts [(b, ()), (day, ())]) 0 then false else
  bif decide (reLo (driftS rate ts b day).1 lo n > reHi (driftS rate ts b day).2 hi n) then false else
  bif decide (a > b) then histB no rate ts day [(b, ()), (a, ())] [(reLo (driftS rate ts b day).1 lo n + n, ()), (reLo (driftS rate ts b day).1 lo n, ())]
  else histB no rate ts day [(a, ()), (b, ())] [(reLo (driftS rate ts b day).1 lo n, ()), (reLo (driftS rate ts b day).1 lo n + n, ())]
def fineB (no rate : Int) (ts : List Test) (a b day lo hi n : Int) : Bool :=
  bif decide (n < -4194304) || decide (n > 4194304) then true else
  bif !eqI (askE no rate ts [(b, ()), (day, ())]) 0 then false else
  bif decide (reLo (driftS rate ts b day).1 lo n > reHi (driftS rate ts b day).2 hi n) then true else
  bif decide (a > b) then eqI (histE no rate ts day [(b, ()), (a, ())] [(reLo (driftS rate ts b day).1 lo n + n, ()), (reLo (driftS rate ts b day).1 lo n, ())]) 0
  else eqI (histE no rate ts day [(a, ()), (b, ())] [(reLo (driftS rate ts b day).1 lo n, ()), (reLo (driftS rate ts b day).1 lo n + n, ())]) 0
def bndB (n : Int) : Bool := decide (-1048576 ≤ n) && decide (n ≤ 1048576)
abbrev W38 (no rate : Int) (ts : List Test) (fl : Bool) (b day lo hi a : Int) : Heap := [.c 24 [.i .i64 no, .i .i64 rate, .ls T26 ts fl], .c 3 [.i .i64 b], .c 3 [.i .i64 day], .c 40 [.i .i64 lo, .i .i64 hi], .c 3 [.i .i64 a]]
/-- What the closure works with, as_ the code has it. -/
def cZl (no rate : Int) (ts : List Test) (b day : Int) : Int := spanIf (askE no rate ts [(b, ()), (day, ())]) (driftS rate ts b day).1
def cZh (no rate : Int) (ts : List Test) (b day : Int) : Int := spanIf (askE no rate ts [(b, ()), (day, ())]) (driftS rate ts b day).2
theorem e38 (no rate n b day lo hi a : Int) (ts : List Test) (fl : Bool) : evB P H19 38 [.i .i64 n, .p 0 0, .p 1 0, .p 2 0, .p 3 0, .p 4 0] (W38 no rate ts fl b day lo hi a) =
    bif decide (n < -4194304) then some (.tup [.b false, .b true], W38 no rate ts fl b day lo hi a) else
    bif decide (n > 4194304) then some (.tup [.b false, .b true], W38 no rate ts fl b day lo hi a) else
    bif askE no rate ts [(b, ()), (day, ())] != 0 then some (.tup [.b false, .b (askE no rate ts [(b, ()), (day, ())] == 0)], W38 no rate ts fl b day lo hi a) else
    bif decide ((if w64 (cZl no rate ts b day - n) > lo then w64 (cZl no rate ts b day - n) else lo) > (if w64 (cZh no rate ts b day - n) < hi then w64 (cZh no rate ts b day - n) else hi)) then some (.tup [.b false, .b (askE no rate ts [(b, ()), (day, ())] == 0)], W38 no rate ts fl b day lo hi a) else
    bif decide (a > b) then
      some (.tup [.b (histB no rate ts day [(b, ()), (a, ())] [(w64 ((if w64 (cZl no rate ts b day - n) > lo then w64 (cZl no rate ts b day - n) else lo) + n), ()), ((if w64 (cZl no rate ts b day - n) > lo then w64 (cZl no rate ts b day - n) else lo), ())]),
        .b (histE no rate ts day [(b, ()), (a, ())] [(w64 ((if w64 (cZl no rate ts b day - n) > lo then w64 (cZl no rate ts b day - n) else lo) + n), ()), ((if w64 (cZl no rate ts b day - n) > lo then w64 (cZl no rate ts b day - n) else lo), ())] == 0)], W38 no rate ts fl b day lo hi a)
    else some (.tup [.b (histB no rate ts day [(a, ()), (b, ())] [((if w64 (cZl no rate ts b day - n) > lo then w64 (cZl no rate ts b day - n) else lo), ()), (w64 ((if w64 (cZl no rate ts b day - n) > lo then w64 (cZl no rate ts b day - n) else lo) + n), ())]),
        .b (histE no rate ts day [(a, ()), (b, ())] [((if w64 (cZl no rate ts b day - n) > lo then w64 (cZl no rate ts b day - n) else lo), ()), (w64 ((if w64 (cZl no rate ts b day - n) > lo then w64 (cZl no rate ts b day - n) else lo) + n), ())] == 0)], W38 no rate ts fl b day lo hi a) := by kernel_rfl
theorem eq0 (n : Int) : (n == 0) = eqI n 0 := by
  unfold eqI
  by_cases h : n = 0 <;> simp [h]
noncomputable def h38 (args : List V) (H : Heap) : Option (Bool × V) := match args, H with
  | [.i .i64 n, .p 0 0, .p 1 0, .p 2 0, .p 3 0, .p 4 0], [.c 24 [.i .i64 no, .i .i64 rate, .ls [.i .i64, .i .i64, .i .i64, .i .i64] ts fl], .c 3 [.i .i64 b], .c 3 [.i .i64 day], .c 40 [.i .i64 lo, .i .i64 hi], .c 3 [.i .i64 a]] => some (((bndB lo) && (bndB hi)), .tup [.b (reachB no rate ts a b day lo hi n), .b (fineB no rate ts a b day lo hi n)])
  | _, _ => none
theorem okk38 (h : HooksOK P X noHooks) (n : Int) (no : Int) (rate : Int) (ts : List Test) (fl : Bool) (b : Int) (day : Int) (lo : Int) (hi : Int) (a : Int) (p0 : (bndB lo) = true) (p1 : (bndB hi) = true) : Enters P 38 ∧ CallV P X 38 [.i .i64 n, .p 0 0, .p 1 0, .p 2 0, .p 3 0, .p 4 0] [.c 24 [.i .i64 no, .i .i64 rate, .ls T26 ts fl], .c 3 [.i .i64 b], .c 3 [.i .i64 day], .c 40 [.i .i64 lo, .i .i64 hi], .c 3 [.i .i64 a]] (.tup [.b (reachB no rate ts a b day lo hi n), .b (fineB no rate ts a b day lo hi n)]) [.c 24 [.i .i64 no, .i .i64 rate, .ls T26 ts fl], .c 3 [.i .i64 b], .c 3 [.i .i64 day], .c 40 [.i .i64 lo, .i .i64 hi], .c 3 [.i .i64 a]] [] := by

  have hlo : -1048576 ≤ lo ∧ lo ≤ 1048576 := by simpa [bndB] using p0
  have hhi : -1048576 ≤ hi ∧ hi ≤ 1048576 := by simpa [bndB] using p1
  refine evB_sound (H19_ok h) ((e38 no rate n b day lo hi a ts fl).trans ?_)
  unfold reachB fineB
  cases c1 : decide (n < -4194304) with
  | true => rfl
  | false =>
    cases c2 : decide (n > 4194304) with
    | true => rfl
    | false =>
      have c1 : ¬ _ := of_decide_eq_false c1
      have c2 : ¬ _ := of_decide_eq_false c2
      rw [cond_false, cond_false, neq0]
      cases he : eqI (askE no rate ts [(b, ()), (day, ())]) 0 with
      | false => simp only [Bool.not_false, cond_true, Bool.or_false, cond_false, eq0, he]
      | true =>
        have hz := spanIf_bnd (no := no) (rate := rate) (ts := ts) (l := [(b, ()), (day, ())]) (on := b) (known := day)
        have z1 : cZl no rate ts b day = (driftS rate ts b day).1 := by unfold cZl spanIf; rw [he]; rfl
        have z2 : cZh no rate ts b day = (driftS rate ts b day).2 := by unfold cZh spanIf; rw [he]; rfl
        have y1 : spanIf (askE no rate ts [(b, ()), (day, ())]) (driftS rate ts b day).1 = (driftS rate ts b day).1 := z1
        have y2 : spanIf (askE no rate ts [(b, ()), (day, ())]) (driftS rate ts b day).2 = (driftS rate ts b day).2 := z2
        rw [y1, y2] at hz
        rw [z1, z2, w64S (n := (driftS rate ts b day).1 - n) (by omega) (by omega), w64S (n := (driftS rate ts b day).2 - n) (by omega) (by omega)]
        have e1 : (if (driftS rate ts b day).1 - n > lo then (driftS rate ts b day).1 - n else lo) = reLo (driftS rate ts b day).1 lo n := by unfold reLo; split <;> omega
        have e2 : (if (driftS rate ts b day).2 - n < hi then (driftS rate ts b day).2 - n else hi) = reHi (driftS rate ts b day).2 hi n := by unfold reHi; split <;> omega
        rw [e1, e2, w64S (n := reLo (driftS rate ts b day).1 lo n + n) (by unfold reLo; omega) (by unfold reLo; omega)]
        simp only [Bool.not_true, Bool.or_false, cond_false, eq0, he]
        cases decide (reLo (driftS rate ts b day).1 lo n > reHi (driftS rate ts b day).2 hi n) with
        | true => rfl
        | false => cases decide (a > b) <;> rfl
theorem ok38 (h : HooksOK P X noHooks) : ∀ args H v, h38 args H = some (true, v) → Enters P 38 ∧ CallV P X 38 args H v H [] := by
  intro args H v hv
  unfold h38 at hv
  split at hv
  case h_2 => cases hv
  rename_i n no rate ts fl b day lo hi a
  simp only [Option.some.injEq, Prod.mk.injEq, Bool.and_eq_true, eqI_s, true_and] at hv
  obtain ⟨⟨p0, p1⟩, rfl⟩ := hv
  exact okk38 h _ _ _ _ _ _ _ _ _ _ p0 p1
noncomputable def H20 : Hooks := H19.peek1 38 h38
theorem H20_ok (h : HooksOK P X noHooks) : HooksOK P X H20 := (H19_ok h).peek1 (ok38 h)
def endStop (no rate : Int) (ts : List Test) (a b day xl xh yl yh : Int) (n : Int) : Bool :=
  !fineB no rate ts a b day xl xh n || !(reachB no rate ts a b day xl xh n == (decide (yl ≤ n) && decide (n ≤ yh)))
def S7 (no : Int) (rate : Int) (ts : List Test) (fl : Bool) (a : Int) (b : Int) (day : Int) (xl : Int) (xh : Int) (yl : Int) (yh : Int) (l1 : List (Int × Unit)) (l2 : List (Int × Unit)) (l : List (Int × Unit)) (len : Int) (i : Int) : St :=
  ⟨[(12, .b false), (15, .p 5 0), (18, .fn 38 [] [.p 0 0, .p 2 0, .p 3 0, .p 4 0, .p 1 0]), (116, .sl 8), (117, .i .i64 len), (118, .i .i64 i)], [.c 24 [.i .i64 no, .i .i64 rate, .ls T26 ts fl], .c 3 [.i .i64 a], .c 3 [.i .i64 b], .c 3 [.i .i64 day], .c 40 [.i .i64 xl, .i .i64 xh], .c 40 [.i .i64 yl, .i .i64 yh], .r 3 T3 l1 true, .r 3 T3 l2 true, .r 3 T3 l false], []⟩
theorem r7 (no rate : Int) (ts : List Test) (fl : Bool) (a b day xl xh yl yh : Int) (l1 l2 l : List (Int × Unit)) (len i : Int) : evRound P H20 7 16 (S7 no rate ts fl a b day xl xh yl yh l1 l2 l len i) =
    bif decide (i < len) then
     bif decide (0 ≤ i) && decide (i < (l.length : Int)) then
      bif decide (Int.toNat i < l.length) then
       bif bndB xl && bndB xh then
        bif !fineB no rate ts a b day xl xh (ra l (Int.toNat i)).1 then some (.ret, S7 no rate ts fl a b day xl xh yl yh l1 l2 l len i) else
        bif decide (yl ≤ (ra l (Int.toNat i)).1) then
         bif !(reachB no rate ts a b day xl xh (ra l (Int.toNat i)).1 == decide ((ra l (Int.toNat i)).1 ≤ yh)) then some (.ret, S7 no rate ts fl a b day xl xh yl yh l1 l2 l len i) else some (.n, S7 no rate ts fl a b day xl xh yl yh l1 l2 l len (w64 (i + 1)))
        else bif !(reachB no rate ts a b day xl xh (ra l (Int.toNat i)).1 == false) then some (.ret, S7 no rate ts fl a b day xl xh yl yh l1 l2 l len i) else some (.n, S7 no rate ts fl a b day xl xh yl yh l1 l2 l len (w64 (i + 1)))
       else none
      else none
     else none
    else some (.exit 0, S7 no rate ts fl a b day xl xh yl yh l1 l2 l len i) := by kernel_rfl
noncomputable def l7 : St → Option (Tr (Ex × St))
  | ⟨[(12, .b false), (15, .p 5 0), (18, .fn 38 [] [.p 0 0, .p 2 0, .p 3 0, .p 4 0, .p 1 0]), (116, .sl 8), (117, .i .i64 len), (118, .i .i64 i)], [.c 24 [.i .i64 no, .i .i64 rate, .ls [.i .i64, .i .i64, .i .i64, .i .i64] ts fl], .c 3 [.i .i64 a], .c 3 [.i .i64 b], .c 3 [.i .i64 day], .c 40 [.i .i64 xl, .i .i64 xh], .c 40 [.i .i64 yl, .i .i64 yh], .r 3 [.i .i64] l1 true, .r 3 [.i .i64] l2 true, .r 3 [.i .i64] l false], []⟩ =>
    some (.test (eqI len (l.length) && (eqI i (0) && ((bndB xl) && ((bndB xh) && (lenB l)))))
    (.test (upL (σ := Unit) (fun i _ => endStop no rate ts a b day xl xh yl yh (ra l i).1) (fun _ s => s) (l.length) (0) (())).1
      (.ok (.ret, ((fun i s => S7 no rate ts fl a b day xl xh yl yh l1 l2 l l.length i : Nat → Unit → St)) (upL (σ := Unit) (fun i _ => endStop no rate ts a b day xl xh yl yh (ra l i).1) (fun _ s => s) (l.length) (0) (())).2.1 (upL (σ := Unit) (fun i _ => endStop no rate ts a b day xl xh yl yh (ra l i).1) (fun _ s => s) (l.length) (0) (())).2.2))
      (.ok (.exit 0, ((fun i s => S7 no rate ts fl a b day xl xh yl yh l1 l2 l l.length i : Nat → Unit → St)) (upL (σ := Unit) (fun i _ => endStop no rate ts a b day xl xh yl yh (ra l i).1) (fun _ s => s) (l.length) (0) (())).2.1 (upL (σ := Unit) (fun i _ => endStop no rate ts a b day xl xh yl yh (ra l i).1) (fun _ s => s) (l.length) (0) (())).2.2)))
    .fail)
  | _ => none
theorem lrun7 (h : HooksOK P X noHooks) (no : Int) (rate : Int) (ts : List Test) (fl : Bool) (a : Int) (b : Int) (day : Int) (xl : Int) (xh : Int) (yl : Int) (yh : Int) (l1 : List (Int × Unit)) (l2 : List (Int × Unit)) (l : List (Int × Unit)) (p0 : (bndB xl) = true) (p1 : (bndB xh) = true) (p2 : (lenB l) = true) (e : Ex) (st' : St)
    (ht : (Tr.get (.test (upL (σ := Unit) (fun i _ => endStop no rate ts a b day xl xh yl yh (ra l i).1) (fun _ s => s) (l.length) (0) (())).1
      (.ok (.ret, ((fun i s => S7 no rate ts fl a b day xl xh yl yh l1 l2 l l.length i : Nat → Unit → St)) (upL (σ := Unit) (fun i _ => endStop no rate ts a b day xl xh yl yh (ra l i).1) (fun _ s => s) (l.length) (0) (())).2.1 (upL (σ := Unit) (fun i _ => endStop no rate ts a b day xl xh yl yh (ra l i).1) (fun _ s => s) (l.length) (0) (())).2.2))
      (.ok (.exit 0, ((fun i s => S7 no rate ts fl a b day xl xh yl yh l1 l2 l l.length i : Nat → Unit → St)) (upL (σ := Unit) (fun i _ => endStop no rate ts a b day xl xh yl yh (ra l i).1) (fun _ s => s) (l.length) (0) (())).2.1 (upL (σ := Unit) (fun i _ => endStop no rate ts a b day xl xh yl yh (ra l i).1) (fun _ s => s) (l.length) (0) (())).2.2)))) = some (e, st')) : LoopV P X 7 16 (S7 no rate ts fl a b day xl xh yl yh l1 l2 l (l.length) (0)) e st' := by
  refine LoopV.run (H20_ok h) (σ := Unit) (n := l.length) (stop := fun i _ => endStop no rate ts a b day xl xh yl yh (ra l i).1) (step := fun _ s => s) (e1 := .ret) (e2 := .exit 0) (st := (fun i s => S7 no rate ts fl a b day xl xh yl yh l1 l2 l l.length i : Nat → Unit → St)) (s1 := (fun i s => S7 no rate ts fl a b day xl xh yl yh l1 l2 l l.length i : Nat → Unit → St)) (s2 := (fun i s => S7 no rate ts fl a b day xl xh yl yh l1 l2 l l.length i : Nat → Unit → St)) (fun _ _ => True)
    (fun i s hinv hi hs => ?_) (by simp) (fun i s hinv hi hs => ?_) (fun s hinv => ?_) (by simp) (l.length) (0) (()) (by omega) ?_ e st' ht

  · have hlen := lenB_s.1 p2
    rw [r7, cond_pos (by simpa using hi), cond_pos (inB (by omega) (by omega)), Int.toNat_natCast, cond_pos (by simpa using hi), cond_pos (by rw [p0, p1]; rfl)]
    unfold endStop at hs
    cases c1 : fineB no rate ts a b day xl xh (ra l i).1 with
    | false => rfl
    | true =>
      rw [c1] at hs
      rw [cond_neg (by rfl)]
      simp only [Bool.not_true, Bool.false_or] at hs
      cases c2 : decide (yl ≤ (ra l i).1) with
      | true =>
        rw [c2, Bool.true_and] at hs
        rw [cond_true, cond_pos hs]
      | false =>
        rw [c2, Bool.false_and] at hs
        rw [cond_false, cond_pos hs]
  · have hlen := lenB_s.1 p2
    refine ⟨?_, trivial⟩
    rw [r7, cond_pos (by simpa using hi), cond_pos (inB (by omega) (by omega)), Int.toNat_natCast, cond_pos (by simpa using hi), cond_pos (by rw [p0, p1]; rfl), natS (by omega)]
    unfold endStop at hs
    simp only [Bool.or_eq_false_iff] at hs
    obtain ⟨c1, hs⟩ := hs
    rw [c1, cond_false]
    cases c2 : decide (yl ≤ (ra l i).1) with
    | true =>
      rw [c2, Bool.true_and] at hs
      rw [cond_true, cond_neg hs]
    | false =>
      rw [c2, Bool.false_and] at hs
      rw [cond_false, cond_neg hs]
  · rw [r7, cond_neg (by simp)]
  · trivial
theorem lok7 (h : HooksOK P X noHooks) : ∀ st t e st', l7 st = some t → t.get = some (e, st') → LoopV P X 7 16 st e st' := by
  intro st t e st' hl ht
  unfold l7 at hl
  split at hl
  case h_2 => cases hl
  rename_i len i no rate ts fl a b day xl xh yl yh l1 l2 l
  cases hl
  replace ht := ht
  have hc : (eqI len (l.length) && (eqI i (0) && ((bndB xl) && ((bndB xh) && (lenB l))))) = true := by
    cases hc : (eqI len (l.length) && (eqI i (0) && ((bndB xl) && ((bndB xh) && (lenB l))))) with
    | true => rfl
    | false => rw [hc] at ht; cases ht
  rw [hc] at ht
  simp only [Bool.and_eq_true, eqI_s] at hc
  obtain ⟨rfl, rfl, p0, p1, p2⟩ := hc
  exact lrun7 h _ _ _ _ _ _ _ _ _ _ _ _ _ _ p0 p1 p2 e st' ht
noncomputable def h13 : List V → Option (Bool × V)
  | [] => some (true, .b true)
  | _ => none
end Go.Mini.Co
end
section
set_option linter.unusedVariables false
set_option linter.unusedSimpArgs false
set_option maxRecDepth 100000
namespace Go.Mini.Co
open Go Go.Mini
/-! Drifts, in plain Lean. -/
theorem upL_snoc {σ : Type} {step : Nat → σ → σ} : ∀ (k i : Nat) (s : σ), (upL (fun _ _ => false) step (k + 1) i s).2.2 = step (i + k) (upL (fun _ _ => false) step k i s).2.2
  | 0, i, s => by simp only [upL, cond_false, Nat.add_zero]
  | k + 1, i, s => by
    have := upL_snoc (step := step) k (i + 1) (step i s)
    rw [upL, cond_false, this]
    simp only [upL, cond_false]
    congr 1
    omega
def driftN (rate on known : Int) (ts : List Test) (k : Nat) : Int × Int := (upL (fun _ _ => false) (driftStep rate on known ts) k 0 (-1048576, 1048576)).2.2
theorem driftN_le {rate on known : Int} {ts : List Test} : ∀ (k : Nat) (x : Int), (driftN rate on known ts k).1 ≤ x ↔ -1048576 ≤ x ∧ ∀ i, i < k → (ta ts i).2.1 ≤ known → (ta ts i).2.2.1 - rate * absD (ta ts i).1 on ≤ x
  | 0, x => by
    simp only [driftN, upL]
    exact ⟨fun h => ⟨h, fun i hi => by omega⟩, fun h => h.1⟩
  | k + 1, x => by
    have ih := driftN_le (rate := rate) (on := on) (known := known) (ts := ts) k x
    have e : driftN rate on known ts (k + 1) = driftStep rate on known ts k (driftN rate on known ts k) := by
      unfold driftN
      rw [upL_snoc, Nat.zero_add]
    rw [e]
    unfold driftStep
    by_cases hk : (ta ts k).2.1 ≤ known
    · rw [cond_pos (by simpa using hk)]
      constructor
      · intro h
        have h' : max (driftN rate on known ts k).1 ((ta ts k).2.2.1 - rate * absD (ta ts k).1 on) ≤ x := h
        obtain ⟨h1, h2⟩ := ih.1 (by omega)
        refine ⟨h1, fun i hi hki => ?_⟩
        by_cases hik : i = k
        · subst hik; omega
        · exact h2 i (by omega) hki
      · rintro ⟨h1, h2⟩
        have a1 := ih.2 ⟨h1, fun i hi hki => h2 i (by omega) hki⟩
        have a2 := h2 k (by omega) hk
        show max _ _ ≤ x
        omega
    · rw [cond_neg (by simpa using hk), ih]
      constructor
      · rintro ⟨h1, h2⟩
        refine ⟨h1, fun i hi hki => ?_⟩
        by_cases hik : i = k
        · subst hik; exact absurd hki hk
        · exact h2 i (by omega) hki
      · rintro ⟨h1, h2⟩
        exact ⟨h1, fun i hi hki => h2 i (by omega) hki⟩
theorem le_driftN {rate on known : Int} {ts : List Test} : ∀ (k : Nat) (x : Int), x ≤ (driftN rate on known ts k).2 ↔ x ≤ 1048576 ∧ ∀ i, i < k → (ta ts i).2.1 ≤ known → x ≤ (ta ts i).2.2.2.1 + rate * absD (ta ts i).1 on
  | 0, x => by
    simp only [driftN, upL]
    exact ⟨fun h => ⟨h, fun i hi => by omega⟩, fun h => h.1⟩
  | k + 1, x => by
    have ih := le_driftN (rate := rate) (on := on) (known := known) (ts := ts) k x
    have e : driftN rate on known ts (k + 1) = driftStep rate on known ts k (driftN rate on known ts k) := by
      unfold driftN
      rw [upL_snoc, Nat.zero_add]
    rw [e]
    unfold driftStep
    by_cases hk : (ta ts k).2.1 ≤ known
    · rw [cond_pos (by simpa using hk)]
      constructor
      · intro h
        have h' : x ≤ min (driftN rate on known ts k).2 ((ta ts k).2.2.2.1 + rate * absD (ta ts k).1 on) := h
        obtain ⟨h1, h2⟩ := ih.1 (by omega)
        refine ⟨h1, fun i hi hki => ?_⟩
        by_cases hik : i = k
        · subst hik; omega
        · exact h2 i (by omega) hki
      · rintro ⟨h1, h2⟩
        have a1 := ih.2 ⟨h1, fun i hi hki => h2 i (by omega) hki⟩
        have a2 := h2 k (by omega) hk
        show x ≤ min _ _
        omega
    · rw [cond_neg (by simpa using hk), ih]
      constructor
      · rintro ⟨h1, h2⟩
        refine ⟨h1, fun i hi hki => ?_⟩
        by_cases hik : i = k
        · subst hik; exact absurd hki hk
        · exact h2 i (by omega) hki
      · rintro ⟨h1, h2⟩
        exact ⟨h1, fun i hi hki => h2 i (by omega) hki⟩
theorem drift_le {rate on known : Int} {ts : List Test} {x : Int} : (driftS rate ts on known).1 ≤ x ↔ -1048576 ≤ x ∧ ∀ i, i < ts.length → (ta ts i).2.1 ≤ known → (ta ts i).2.2.1 - rate * absD (ta ts i).1 on ≤ x := driftN_le ts.length x
theorem le_drift {rate on known : Int} {ts : List Test} {x : Int} : x ≤ (driftS rate ts on known).2 ↔ x ≤ 1048576 ∧ ∀ i, i < ts.length → (ta ts i).2.1 ≤ known → x ≤ (ta ts i).2.2.2.1 + rate * absD (ta ts i).1 on := le_driftN ts.length x
/-- Tests that do not contradict each other. -/
def Fits (rate : Int) (ts : List Test) : Prop := ∀ i k, i < ts.length → k < ts.length → (ta ts i).2.2.1 - (ta ts k).2.2.2.1 ≤ rate * absD (ta ts i).1 (ta ts k).1
theorem absD_comm (a b : Int) : absD a b = absD b a := by unfold absD; omega
theorem fits_of {no rate : Int} {ts : List Test} (h : scaleE no rate ts = 0) : Fits rate ts := by
  obtain ⟨hw, hp⟩ := scaleE_0 h
  have hok := wellB_ok hw
  unfold pairI at hp
  have h1 := (upU_none (stop := fun i => (pairK rate ts i).1) _ _).1 hp
  have lt : ∀ i k, i < k → k < ts.length → contraB rate (ta ts i) (ta ts k) = false := fun i k hik hk => by
    have h2 := h1 i (by omega) (by omega)
    unfold pairK at h2
    exact (upU_none (stop := fun k => contraB rate (ta ts i) (ta ts k)) _ _).1 h2 k (by omega) (by omega)
  intro i k hi hk
  rcases Nat.lt_trichotomy i k with hik | rfl | hik
  · have := lt i k hik hk
    unfold contraB at this
    have := of_decide_eq_false this
    omega
  · obtain ⟨_, _, t3, _, _⟩ := okTest_s.1 (allOk_at hok hi)
    have e : absD (ta ts i).1 (ta ts i).1 = 0 := by unfold absD; omega
    rw [e, Int.mul_zero]; omega
  · have := lt k i hik hi
    unfold contraB at this
    have := of_decide_eq_false this
    rw [absD_comm]
    omega
theorem tri {r : Int} (hr : 0 ≤ r) (a b c d : Int) : r * absD a b ≤ r * absD a c + r * absD c d + r * absD d b := by
  rw [← Int.mul_add, ← Int.mul_add]
  exact Int.mul_le_mul_of_nonneg_left (by unfold absD; omega) hr
theorem drift_lip {no rate : Int} {ts : List Test} (h : scaleE no rate ts = 0) (a b known : Int) : (driftS rate ts b known).1 ≤ (driftS rate ts a known).2 + rate * absD a b := by
  have hf := fits_of h
  obtain ⟨hw, _⟩ := scaleE_0 h
  have hs := wellB_scale hw
  obtain ⟨r1, r2⟩ := okRate_s.1 (wellB_rate hw)
  have b1 := drift_bnd (on := a) (known := known) hs
  have hn : 0 ≤ rate * absD a b := Int.mul_nonneg r1 (by unfold absD; omega)
  rw [drift_le]
  refine ⟨by omega, fun i hi hki => ?_⟩
  have key : (ta ts i).2.2.1 - rate * absD (ta ts i).1 b - rate * absD a b ≤ (driftS rate ts a known).2 := by
    obtain ⟨_, _, t3, t4, t5⟩ := okTest_s.1 (allOk_at (wellB_ok hw) hi)
    have hn2 : 0 ≤ rate * absD (ta ts i).1 b := Int.mul_nonneg r1 (by unfold absD; omega)
    rw [le_drift]
    refine ⟨by omega, fun k hk hkk => ?_⟩
    have h1 := hf i k hi hk
    have h2 := tri r1 (ta ts i).1 (ta ts k).1 b a
    rw [absD_comm b a, absD_comm a (ta ts k).1] at h2
    omega
  omega
theorem drift_fits {no rate : Int} {ts : List Test} (h : scaleE no rate ts = 0) (a known : Int) : (driftS rate ts a known).1 ≤ (driftS rate ts a known).2 := by
  have := drift_lip h a a known
  have e : absD a a = 0 := by unfold absD; omega
  rw [e, Int.mul_zero] at this
  omega
/-! Questions with one day, with two. -/
theorem rise1 {a : Int} (ha : dayB a = true) : riseB [(a, ())] = true := by
  have : (riseU [(a, ())]).1 = false := by
    show (upL (σ := Unit) (fun i _ => riseStop [(a, ())] i) (fun _ s => s) 1 0 ()).1 = false
    simp [upL, riseStop, ra, ha]
  unfold riseB
  rw [this]; rfl
theorem rise2 {a b : Int} (ha : dayB a = true) (hb : dayB b = true) (h : a < b) : riseB [(a, ()), (b, ())] = true := by
  have : (riseU [(a, ()), (b, ())]).1 = false := by
    show (upL (σ := Unit) (fun i _ => riseStop [(a, ()), (b, ())] i) (fun _ s => s) 2 0 ()).1 = false
    have hba : ¬ b ≤ a := by omega
    simp [upL, riseStop, ra, ha, hb, hba]
  unfold riseB
  rw [this]; rfl
theorem ask_day {no rate : Int} {ts : List Test} {l : List (Int × Unit)} (h : askE no rate ts l = 0) {day : Int} (hd : dayB day = true) : askE no rate ts [(day, ())] = 0 := by
  unfold askE
  rw [(askE_0 h).1]
  have : (daysU [(day, ())]).1 = false := by
    rw [daysU_none]
    intro i hi
    have : i = 0 := by simp at hi; exact hi
    subst this
    exact hd
  rw [this]; rfl
theorem histE0 {no rate : Int} {ts : List Test} {day : Int} {l g : List (Int × Unit)} (h : askE no rate ts [(day, ())] = 0) (hl : l.length = g.length) (hr : riseB l = true) : histE no rate ts day l g = 0 := by
  unfold histE
  rw [h, sameLen_s.2 hl, hr]; rfl
theorem histB0 {no rate : Int} {ts : List Test} {day : Int} {l g : List (Int × Unit)} (h : histE no rate ts day l g = 0) : histB no rate ts day l g = possB rate ts day l g := by
  unfold histB
  rw [h]; rfl
theorem poss1 {rate : Int} {ts : List Test} {day a x : Int} : possB rate ts day [(a, ())] [(x, ())] = true ↔ (driftS rate ts a day).1 ≤ x ∧ x ≤ (driftS rate ts a day).2 := by
  unfold possB
  rw [Bool.not_eq_true', upU_none (stop := possStop rate ts day [(a, ())] [(x, ())])]
  constructor
  · intro h
    have := h 0 (by omega) (by simp)
    simp [possStop, ra] at this
    omega
  · intro h j _ hj
    have : j = 0 := by simp at hj; omega
    subst this
    simp [possStop, ra]
    omega
theorem poss2 {rate : Int} {ts : List Test} {day a b x y : Int} : possB rate ts day [(a, ()), (b, ())] [(x, ()), (y, ())] = true ↔ ((driftS rate ts a day).1 ≤ x ∧ x ≤ (driftS rate ts a day).2) ∧ ((driftS rate ts b day).1 ≤ y ∧ y ≤ (driftS rate ts b day).2) ∧ absD y x ≤ rate * (b - a) := by
  unfold possB
  rw [Bool.not_eq_true', upU_none (stop := possStop rate ts day [(a, ()), (b, ())] [(x, ()), (y, ())])]
  constructor
  · intro h
    have h0 := h 0 (by omega) (by simp)
    have h1 := h 1 (by omega) (by simp)
    simp [possStop, ra] at h0 h1
    omega
  · intro h j _ hj
    have : j = 0 ∨ j = 1 := by simp at hj; omega
    rcases this with rfl | rfl
    · simp [possStop, ra]; omega
    · simp [possStop, ra]; omega
/-! The closure of CourseEnds. -/
section
variable {no rate a b day : Int} {ts : List Test}
theorem ask_cons {l : List (Int × Unit)} (h : scaleE no rate ts = 0) (hl : ∀ i, i < l.length → dayB (ra l i).1 = true) : askE no rate ts l = 0 := by
  unfold askE
  rw [h, daysU_none.2 hl]; rfl
theorem reach_iff (h : scaleE no rate ts = 0) (ha : dayB a = true) (hb : dayB b = true) (hd : dayB day = true) (hab : a ≠ b) (n : Int) :
    fineB no rate ts a b day (driftS rate ts a day).1 (driftS rate ts a day).2 n = true ∧
      (reachB no rate ts a b day (driftS rate ts a day).1 (driftS rate ts a day).2 n = true ↔ (turnS rate ts a b day).1 ≤ n ∧ n ≤ (turnS rate ts a b day).2) := by
  have hs := wellB_scale (scaleE_0 h).1
  have bA := drift_bnd (on := a) (known := day) hs
  have bB := drift_bnd (on := b) (known := day) hs
  have fA := drift_fits h a day
  have fB := drift_fits h b day
  have hask : askE no rate ts [(b, ()), (day, ())] = 0 := ask_cons h (fun i hi => by
    have : i = 0 ∨ i = 1 := by simp at hi; omega
    rcases this with rfl | rfl
    · exact hb
    · exact hd)
  have hday : askE no rate ts [(day, ())] = 0 := ask_day hask hd
  unfold fineB reachB turnS
  rw [hask]
  simp only [eqI, decide_true, Bool.not_true, cond_false]
  by_cases h1 : n < -4194304 ∨ n > 4194304
  · have : (decide (n < -4194304) || decide (n > 4194304)) = true := by simpa using h1
    rw [this]
    refine ⟨rfl, ?_⟩
    simp only [cond_true, Bool.false_eq_true, false_iff]
    omega
  · have : (decide (n < -4194304) || decide (n > 4194304)) = false := by simpa using h1
    rw [this]
    simp only [cond_false]
    by_cases h2 : reLo (driftS rate ts b day).1 (driftS rate ts a day).1 n > reHi (driftS rate ts b day).2 (driftS rate ts a day).2 n
    · rw [decide_eq_true h2]
      refine ⟨rfl, ?_⟩
      simp only [cond_true, Bool.false_eq_true, false_iff]
      unfold reLo reHi at h2
      omega
    · rw [decide_eq_false h2]
      simp only [cond_false]
      have h2' := h2
      unfold reLo reHi at h2
      generalize hx : reLo (driftS rate ts b day).1 (driftS rate ts a day).1 n = x
      have hx' : x = max (driftS rate ts a day).1 ((driftS rate ts b day).1 - n) := hx.symm
      by_cases hgt : a > b
      · rw [decide_eq_true hgt]
        simp only [cond_true]
        have e0 : histE no rate ts day [(b, ()), (a, ())] [(x + n, ()), (x, ())] = 0 := histE0 hday rfl (rise2 hb ha (by omega))
        rw [e0, histB0 e0, poss2]
        refine ⟨by simp, ?_⟩
        have e1 : absD a b = a - b := by unfold absD; omega
        rw [e1]
        unfold absD
        omega
      · rw [decide_eq_false hgt]
        simp only [cond_false]
        have e0 : histE no rate ts day [(a, ()), (b, ())] [(x, ()), (x + n, ())] = 0 := histE0 hday rfl (rise2 ha hb (by omega))
        rw [e0, histB0 e0, poss2]
        refine ⟨by simp, ?_⟩
        have e1 : absD a b = b - a := by unfold absD; omega
        rw [e1]
        unfold absD
        omega
theorem turn_fits (h : scaleE no rate ts = 0) : (turnS rate ts a b day).1 ≤ (turnS rate ts a b day).2 := by
  have fA := drift_fits h a day
  have fB := drift_fits h b day
  have l1 := drift_lip h a b day
  have l2 := drift_lip h b a day
  rw [absD_comm b a] at l2
  obtain ⟨r1, _⟩ := okRate_s.1 (wellB_rate (scaleE_0 h).1)
  have : 0 ≤ rate * absD a b := Int.mul_nonneg r1 (by unfold absD; omega)
  unfold turnS
  show max _ _ ≤ min _ _
  omega
end
/-! The law. -/
noncomputable def H21 : Hooks := (H20.loop1 7 16 l7).call1 13 h13
abbrev EA (no rate : Int) (ts : List Test) (a day : Int) : Int := askE no rate ts [(a, ()), (day, ())]
abbrev EB (no rate : Int) (ts : List Test) (a b day : Int) : Int := askE no rate ts [(a, ()), (b, ()), (day, ())]
def XL (no rate : Int) (ts : List Test) (a day : Int) : Int := spanIf (EA no rate ts a day) (driftS rate ts a day).1
def XH (no rate : Int) (ts : List Test) (a day : Int) : Int := spanIf (EA no rate ts a day) (driftS rate ts a day).2
def YL (no rate : Int) (ts : List Test) (a b day : Int) : Int := spanIf (EB no rate ts a b day) (turnS rate ts a b day).1
def YH (no rate : Int) (ts : List Test) (a b day : Int) : Int := spanIf (EB no rate ts a b day) (turnS rate ts a b day).2
def endsErr (EA EB XL XH YL YH : Int) : Option V :=
  bif XL == 0 && (XH == 0 && true) then
    bif YL == 0 && (YH == 0 && true) then
      bif EA != 0 then (bif EB != 0 then some (.b true) else bif EA == 0 then some (.b (EB == 1)) else some (.b false)) else bif EA == 0 then some (.b (EB == 1)) else some (.b false)
    else bif EA == 0 then some (.b (EB == 1)) else some (.b false)
  else bif EA == 0 then some (.b (EB == 1)) else some (.b false)
def endsRest (no rate a b day turn : Int) (ts : List Test) (XL XH YL YH : Int) : Option V :=
  bif a == b then some (.b (YL == 0 && (YH == 0 && true))) else
  bif eqI (List.length [(YL, ()), (YH, ()), (turn, ())] : Nat) (List.length [(YL, ()), (YH, ()), (turn, ())] : Nat) && (eqI 0 0 && (bndB XL && (bndB XH && lenB [(YL, ()), (YH, ()), (turn, ())]))) then
    bif (upL (σ := Unit) (fun i _ => endStop no rate ts a b day XL XH YL YH (ra [(YL, ()), (YH, ()), (turn, ())] i).1) (fun _ s => s) (List.length [(YL, ()), (YH, ()), (turn, ())]) 0 ()).1 then some (.b false) else
    bif bndB XL && bndB XH then
      bif bndB XL && bndB XH then
        bif fineB no rate ts a b day XL XH (w64 (YL - 1)) then
          bif fineB no rate ts a b day XL XH (w64 (YH + 1)) then
            bif !reachB no rate ts a b day XL XH (w64 (YL - 1)) then
              bif !reachB no rate ts a b day XL XH (w64 (YH + 1)) then some (.b (decide (YL ≤ YH))) else some (.b false)
            else some (.b false)
          else some (.b false)
        else some (.b false)
      else none
    else none
  else none
theorem e7 (no rate a b day grams turn : Int) (ts : List Test) (fl : Bool) : evP P H21 7 [.agg [.i .i64 no, .i .i64 rate, .ls T26 ts fl], .i .i64 a, .i .i64 b, .i .i64 day, .i .i64 grams, .i .i64 turn] =
    bif decide ((ts.length : Int) > 100) then some (.b true) else
    bif EA no rate ts a day != 0 then endsErr (EA no rate ts a day) (EB no rate ts a b day) (XL no rate ts a day) (XH no rate ts a day) (YL no rate ts a b day) (YH no rate ts a b day) else
    bif EB no rate ts a b day != 0 then endsErr (EA no rate ts a day) (EB no rate ts a b day) (XL no rate ts a day) (XH no rate ts a day) (YL no rate ts a b day) (YH no rate ts a b day) else
    bif histE no rate ts day [(a, ())] [(grams, ())] != 0 then some (.b false) else
    bif decide (XL no rate ts a day ≤ grams) then
      bif !(histB no rate ts day [(a, ())] [(grams, ())] == decide (grams ≤ XH no rate ts a day)) then some (.b false) else endsRest no rate a b day turn ts (XL no rate ts a day) (XH no rate ts a day) (YL no rate ts a b day) (YH no rate ts a b day)
    else bif !(histB no rate ts day [(a, ())] [(grams, ())] == false) then some (.b false) else endsRest no rate a b day turn ts (XL no rate ts a day) (XH no rate ts a day) (YL no rate ts a b day) (YH no rate ts a b day) := by kernel_rfl
theorem endsErr0 {EA EB XL XH YL YH : Int} (hA : EA = 0) (hB : EB = 1) : endsErr EA EB XL XH YL YH = some (.b true) := by
  subst hA hB
  unfold endsErr
  cases (XL == 0 && (XH == 0 && true)) <;> cases (YL == 0 && (YH == 0 && true)) <;> rfl
theorem ends_rest {no rate a b day : Int} {ts : List Test} (turn : Int) (h : scaleE no rate ts = 0) (ha : dayB a = true) (hb : dayB b = true) (hd : dayB day = true) :
    endsRest no rate a b day turn ts (driftS rate ts a day).1 (driftS rate ts a day).2 (turnS rate ts a b day).1 (turnS rate ts a b day).2 = some (.b true) := by
  have hs := wellB_scale (scaleE_0 h).1
  have bA := drift_bnd (on := a) (known := day) hs
  have bB := drift_bnd (on := b) (known := day) hs
  have fA := drift_fits h a day
  have fT := turn_fits (a := a) (b := b) (day := day) h
  unfold endsRest
  by_cases hab : a = b
  · subst hab
    have e : absD a a = 0 := by unfold absD; omega
    have e1 : (turnS rate ts a a day).1 = 0 ∧ (turnS rate ts a a day).2 = 0 := by
      unfold turnS
      rw [e, Int.mul_zero]
      constructor
      · show max _ _ = _; omega
      · show min _ _ = _; omega
    rw [e1.1, e1.2]
    simp
  · have hab' : (a == b) = false := by simpa using hab
    rw [hab', cond_false]
    have b1 : bndB (driftS rate ts a day).1 = true := by simp [bndB]; omega
    have b2 : bndB (driftS rate ts a day).2 = true := by simp [bndB]; omega
    have bt : -3000000 ≤ (turnS rate ts a b day).1 ∧ (turnS rate ts a b day).2 ≤ 3000000 := by
      unfold turnS
      constructor
      · show _ ≤ max _ _; omega
      · show min _ _ ≤ _; omega
    have reach := fun n => reach_iff (a := a) (b := b) (day := day) h ha hb hd hab n
    have hstop : (upL (σ := Unit) (fun i _ => endStop no rate ts a b day (driftS rate ts a day).1 (driftS rate ts a day).2 (turnS rate ts a b day).1 (turnS rate ts a b day).2 (ra [((turnS rate ts a b day).1, ()), ((turnS rate ts a b day).2, ()), (turn, ())] i).1) (fun _ s => s) (List.length [((turnS rate ts a b day).1, ()), ((turnS rate ts a b day).2, ()), (turn, ())]) 0 ()).1 = false := by
      rw [upU_none (stop := fun i => endStop no rate ts a b day (driftS rate ts a day).1 (driftS rate ts a day).2 (turnS rate ts a b day).1 (turnS rate ts a b day).2 (ra [((turnS rate ts a b day).1, ()), ((turnS rate ts a b day).2, ()), (turn, ())] i).1)]
      intro j _ _
      unfold endStop
      generalize (ra [((turnS rate ts a b day).1, ()), ((turnS rate ts a b day).2, ()), (turn, ())] j).1 = n
      obtain ⟨r1, r2⟩ := reach n
      rw [r1]
      have e2 : reachB no rate ts a b day (driftS rate ts a day).1 (driftS rate ts a day).2 n = (decide ((turnS rate ts a b day).1 ≤ n) && decide (n ≤ (turnS rate ts a b day).2)) := by
        rw [Bool.eq_iff_iff, r2]; simp
      rw [e2]; simp
    have r1 := reach ((turnS rate ts a b day).1 - 1)
    have r2 := reach ((turnS rate ts a b day).2 + 1)
    have n1 : reachB no rate ts a b day (driftS rate ts a day).1 (driftS rate ts a day).2 ((turnS rate ts a b day).1 - 1) = false := by
      rw [← Bool.not_eq_true, r1.2]; omega
    have n2 : reachB no rate ts a b day (driftS rate ts a day).1 (driftS rate ts a day).2 ((turnS rate ts a b day).2 + 1) = false := by
      rw [← Bool.not_eq_true, r2.2]; omega
    rw [cond_pos (by rw [b1, b2]; simp [eqI, lenB]), cond_neg hstop, w64S (n := (turnS rate ts a b day).1 - 1) (by omega) (by omega), w64S (n := (turnS rate ts a b day).2 + 1) (by omega) (by omega), b1, b2, r1.1, r2.1, n1, n2]
    simp [fT]
theorem ask_bad {no rate : Int} {ts : List Test} {l m : List (Int × Unit)} (h : askE no rate ts l ≠ 0) (hl : ∀ i, i < l.length → ∃ j, j < m.length ∧ ra l i = ra m j) : askE no rate ts m ≠ 0 := by
  intro e
  obtain ⟨h1, h2⟩ := askE_0 e
  exact h (ask_cons h1 (fun i hi => by
    obtain ⟨j, hj, e⟩ := hl i hi
    rw [e]; exact h2 j hj))
theorem ask_1 {no rate : Int} {ts : List Test} {l m : List (Int × Unit)} (h : askE no rate ts l = 0) (hm : askE no rate ts m ≠ 0) : askE no rate ts m = 1 := by
  have h1 := (askE_0 h).1
  unfold askE at hm ⊢
  rw [h1] at hm ⊢
  cases hd : (daysU m).1 with
  | true => rfl
  | false => rw [hd] at hm; exact absurd rfl hm
theorem ends_ev (no rate a b day grams turn : Int) (ts : List Test) (fl : Bool) : evP P H21 7 [.agg [.i .i64 no, .i .i64 rate, .ls T26 ts fl], .i .i64 a, .i .i64 b, .i .i64 day, .i .i64 grams, .i .i64 turn] = some (.b true) := by
  refine (e7 no rate a b day grams turn ts fl).trans ?_
  by_cases hlen : (ts.length : Int) > 100
  · rw [cond_pos (by simpa using hlen)]
  rw [cond_neg (by simpa using hlen), neq0, neq0]
  by_cases hA : EA no rate ts a day = 0
  · by_cases hB : EB no rate ts a b day = 0
    · have hsc := (askE_0 hA).1
      have ha : dayB a = true := (askE_0 hA).2 0 (by simp)
      have hd : dayB day = true := (askE_0 hA).2 1 (by simp)
      have hb : dayB b = true := (askE_0 hB).2 1 (by simp)
      have hday := ask_day hA hd
      have x1 : XL no rate ts a day = (driftS rate ts a day).1 := by unfold XL spanIf; rw [hA]; rfl
      have x2 : XH no rate ts a day = (driftS rate ts a day).2 := by unfold XH spanIf; rw [hA]; rfl
      have y1 : YL no rate ts a b day = (turnS rate ts a b day).1 := by unfold YL spanIf; rw [hB]; rfl
      have y2 : YH no rate ts a b day = (turnS rate ts a b day).2 := by unfold YH spanIf; rw [hB]; rfl
      have e0 : histE no rate ts day [(a, ())] [(grams, ())] = 0 := histE0 hday rfl (rise1 ha)
      rw [hA, hB, cond_neg (by rfl), cond_neg (by rfl), x1, x2, y1, y2, e0, cond_neg (by rfl), histB0 e0, ends_rest turn hsc ha hb hd]
      by_cases h1 : (driftS rate ts a day).1 ≤ grams
      · rw [cond_pos (by simpa using h1), cond_neg]
        have : possB rate ts day [(a, ())] [(grams, ())] = decide (grams ≤ (driftS rate ts a day).2) := by
          rw [Bool.eq_iff_iff, poss1]; simp [h1]
        rw [this]; simp
      · rw [cond_neg (by simpa using h1), cond_neg]
        have : possB rate ts day [(a, ())] [(grams, ())] = false := by
          rw [← Bool.not_eq_true, poss1]; omega
        rw [this]; rfl
    · rw [hA, cond_neg (by rfl), cond_pos (by simp [eqI, hB])]
      exact endsErr0 rfl (ask_1 hA hB)
  · have hB : EB no rate ts a b day ≠ 0 := ask_bad hA (fun i hi => by
      have : i = 0 ∨ i = 1 := by simp at hi; omega
      rcases this with rfl | rfl
      · exact ⟨0, by simp, rfl⟩
      · exact ⟨2, by simp, rfl⟩)
    rw [cond_pos (by simp [eqI, hA])]
    have x1 : XL no rate ts a day = 0 := by unfold XL spanIf; rw [cond_neg (by simp [eqI]; exact hA)]
    have x2 : XH no rate ts a day = 0 := by unfold XH spanIf; rw [cond_neg (by simp [eqI]; exact hA)]
    have y1 : YL no rate ts a b day = 0 := by unfold YL spanIf; rw [cond_neg (by simp [eqI]; exact hB)]
    have y2 : YH no rate ts a b day = 0 := by unfold YH spanIf; rw [cond_neg (by simp [eqI]; exact hB)]
    rw [x1, x2, y1, y2]
    unfold endsErr
    rw [show ((0 : Int) == 0 && ((0 : Int) == 0 && true)) = true from rfl, cond_true, cond_true, neq0, neq0, cond_pos (by simp [eqI]; exact hA), cond_pos (by simp [eqI]; exact hB)]
end Go.Mini.Co
end
section
set_option linter.unusedVariables false
set_option linter.unusedSimpArgs false
set_option maxRecDepth 100000
namespace Go.Mini.Co
open Go Go.Mini
variable {X : Fz → Prop}
/-! AddTest -/
def S16 (no : Int) (rate : Int) (ts : List Test) (fl : Bool) (a : Int) (b : Int) (c : Int) (d : Int) (r : Int) (n : Int) (len : Int) (i : Int) : St :=
  ⟨[(2, .p 0 0), (3, .p 1 0), (4, .p 2 0), (5, .i .i64 r), (7, .i .i64 n), (42, .ls T26 ts fl), (43, .i .i64 len), (44, .i .i64 i)], [.c 24 [.i .i64 no, .i .i64 rate, .ls T26 ts fl], .c 26 [.i .i64 a, .i .i64 b, .i .i64 c, .i .i64 d], .c 24 [.i .i64 0, .i .i64 0, .ls T26 [] true]], []⟩
theorem r16 (no rate : Int) (ts : List Test) (fl : Bool) (a b c d n len i : Int) : evRound P H19 16 12 (S16 no rate ts fl a b c d 0 n len i) =
    bif decide (i < len) then
      bif decide (0 ≤ i) && decide (i < (ts.length : Int)) then
        bif okRate rate && (okTest (a, b, c, d, ()) && okTest (ta ts (Int.toNat i))) then
          bif contraB rate (a, b, c, d, ()) (ta ts (Int.toNat i)) then some (.ret, S16 no rate ts fl a b c d 13 n len i) else some (.n, S16 no rate ts fl a b c d 0 n len (w64 (i + 1)))
        else none
      else none
    else some (.exit 0, S16 no rate ts fl a b c d 0 n len i) := by kernel_rfl
noncomputable def l16 : St → Option (Tr (Ex × St))
  | ⟨[(2, .p 0 0), (3, .p 1 0), (4, .p 2 0), (5, .i .i64 r), (7, .i .i64 n), (42, .ls [.i .i64, .i .i64, .i .i64, .i .i64] ts fl), (43, .i .i64 len), (44, .i .i64 i)], [.c 24 [.i .i64 no, .i .i64 rate, .ls [.i .i64, .i .i64, .i .i64, .i .i64] ts' fl'], .c 26 [.i .i64 a, .i .i64 b, .i .i64 c, .i .i64 d], .c 24 [.i .i64 0, .i .i64 0, .ls [.i .i64, .i .i64, .i .i64, .i .i64] [] true]], []⟩ =>
    some (.test (eqI r (0) && (eqI len (ts.length) && (eqI i (0) && (eqT ts' ts && (eqB fl' fl && ((okRate rate) && ((okTest (a, b, c, d, ())) && ((allOk ts) && (lenB ts)))))))))
    (.test (upL (σ := Unit) (fun i _ => contraB rate (a, b, c, d, ()) (ta ts i)) (fun _ s => s) (ts.length) (0) (())).1
      (.ok (.ret, ((fun i s => S16 no rate ts fl a b c d 13 n ts.length i : Nat → Unit → St)) (upL (σ := Unit) (fun i _ => contraB rate (a, b, c, d, ()) (ta ts i)) (fun _ s => s) (ts.length) (0) (())).2.1 (upL (σ := Unit) (fun i _ => contraB rate (a, b, c, d, ()) (ta ts i)) (fun _ s => s) (ts.length) (0) (())).2.2))
      (.ok (.exit 0, ((fun i s => S16 no rate ts fl a b c d 0 n ts.length i : Nat → Unit → St)) (upL (σ := Unit) (fun i _ => contraB rate (a, b, c, d, ()) (ta ts i)) (fun _ s => s) (ts.length) (0) (())).2.1 (upL (σ := Unit) (fun i _ => contraB rate (a, b, c, d, ()) (ta ts i)) (fun _ s => s) (ts.length) (0) (())).2.2)))
    .fail)
  | _ => none
theorem lrun16 (h : HooksOK P X noHooks) (no : Int) (rate : Int) (ts : List Test) (fl : Bool) (a : Int) (b : Int) (c : Int) (d : Int) (n : Int) (p0 : (okRate rate) = true) (p1 : (okTest (a, b, c, d, ())) = true) (p2 : (allOk ts) = true) (p3 : (lenB ts) = true) (e : Ex) (st' : St)
    (ht : (Tr.get (.test (upL (σ := Unit) (fun i _ => contraB rate (a, b, c, d, ()) (ta ts i)) (fun _ s => s) (ts.length) (0) (())).1
      (.ok (.ret, ((fun i s => S16 no rate ts fl a b c d 13 n ts.length i : Nat → Unit → St)) (upL (σ := Unit) (fun i _ => contraB rate (a, b, c, d, ()) (ta ts i)) (fun _ s => s) (ts.length) (0) (())).2.1 (upL (σ := Unit) (fun i _ => contraB rate (a, b, c, d, ()) (ta ts i)) (fun _ s => s) (ts.length) (0) (())).2.2))
      (.ok (.exit 0, ((fun i s => S16 no rate ts fl a b c d 0 n ts.length i : Nat → Unit → St)) (upL (σ := Unit) (fun i _ => contraB rate (a, b, c, d, ()) (ta ts i)) (fun _ s => s) (ts.length) (0) (())).2.1 (upL (σ := Unit) (fun i _ => contraB rate (a, b, c, d, ()) (ta ts i)) (fun _ s => s) (ts.length) (0) (())).2.2)))) = some (e, st')) : LoopV P X 16 12 (S16 no rate ts fl a b c d (0) n (ts.length) (0)) e st' := by
  refine LoopV.run (H19_ok h) (σ := Unit) (n := ts.length) (stop := fun i _ => contraB rate (a, b, c, d, ()) (ta ts i)) (step := fun _ s => s) (e1 := .ret) (e2 := .exit 0) (st := (fun i s => S16 no rate ts fl a b c d 0 n ts.length i : Nat → Unit → St)) (s1 := (fun i s => S16 no rate ts fl a b c d 13 n ts.length i : Nat → Unit → St)) (s2 := (fun i s => S16 no rate ts fl a b c d 0 n ts.length i : Nat → Unit → St)) (fun _ _ => True)
    (fun i s hinv hi hs => ?_) (by simp) (fun i s hinv hi hs => ?_) (fun s hinv => ?_) (by simp) (ts.length) (0) (()) (by omega) ?_ e st' ht

  · have hlen := lenB_s.1 p3
    rw [r16, cond_pos (by simpa using hi), cond_pos (inB (by omega) (by omega)), Int.toNat_natCast, cond_pos (by rw [p0, p1, allOk_at p2 hi]; rfl), cond_pos hs]
  · have hlen := lenB_s.1 p3
    refine ⟨?_, trivial⟩
    rw [r16, cond_pos (by simpa using hi), cond_pos (inB (by omega) (by omega)), Int.toNat_natCast, cond_pos (by rw [p0, p1, allOk_at p2 hi]; rfl), cond_neg hs, natS (by omega)]
  · rw [r16, cond_neg (by simp)]
  · trivial
theorem lok16 (h : HooksOK P X noHooks) : ∀ st t e st', l16 st = some t → t.get = some (e, st') → LoopV P X 16 12 st e st' := by
  intro st t e st' hl ht
  unfold l16 at hl
  split at hl
  case h_2 => cases hl
  rename_i r n ts fl len i no rate ts' fl' a b c d
  cases hl
  replace ht := ht
  have hc : (eqI r (0) && (eqI len (ts.length) && (eqI i (0) && (eqT ts' ts && (eqB fl' fl && ((okRate rate) && ((okTest (a, b, c, d, ())) && ((allOk ts) && (lenB ts))))))))) = true := by
    cases hc : (eqI r (0) && (eqI len (ts.length) && (eqI i (0) && (eqT ts' ts && (eqB fl' fl && ((okRate rate) && ((okTest (a, b, c, d, ())) && ((allOk ts) && (lenB ts))))))))) with
    | true => rfl
    | false => rw [hc] at ht; cases ht
  rw [hc] at ht
  simp only [Bool.and_eq_true, eqI_s] at hc
  obtain ⟨rfl, rfl, rfl, q_tsx, q_flx, p0, p1, p2, p3⟩ := hc
  obtain rfl := eqT_s.1 q_tsx
  obtain rfl := eqB_s.1 q_flx
  exact lrun16 h _ _ _ _ _ _ _ _ _ p0 p1 p2 p3 e st' ht
noncomputable def K1 : Hooks := H19.loop1 16 12 l16
theorem K1_ok (h : HooksOK P X noHooks) : HooksOK P X K1 := (H19_ok h).loop1 (lok16 h)
theorem e92 (n : Int) : evP P noHooks 92 [.i .i64 n] = bif decide (n ≥ 0) then some (.b (decide (n ≤ 1048576))) else some (.b false) := by kernel_rfl
theorem e93 (n : Int) : evP P noHooks 93 [.i .i64 n] = bif decide (n ≥ 0) then some (.b (decide (n ≤ 20000))) else some (.b false) := by kernel_rfl
noncomputable def h92 : List V → Option (Bool × V)
  | [.i .i64 n] => some (true, .b (gramB n))
  | _ => none
theorem okk92 (h : HooksOK P X noHooks) (n : Int)  : Pure P X 92 [.i .i64 n] (.b (gramB n)) := by

  refine evP_sound h ((e92 n).trans ?_)
  unfold gramB
  by_cases h0 : 0 ≤ n <;> simp [h0]
theorem ok92 (h : HooksOK P X noHooks) : ∀ args v, h92 args = some (true, v) → Pure P X 92 args v := by
  intro args v hv
  unfold h92 at hv
  split at hv
  case h_2 => cases hv
  rename_i n
  simp only [Option.some.injEq, Prod.mk.injEq, Bool.and_eq_true, eqI_s, true_and] at hv
  subst hv
  exact okk92 h _ 
noncomputable def h93 : List V → Option (Bool × V)
  | [.i .i64 n] => some (true, .b (lenOk n))
  | _ => none
theorem okk93 (h : HooksOK P X noHooks) (n : Int)  : Pure P X 93 [.i .i64 n] (.b (lenOk n)) := by

  refine evP_sound h ((e93 n).trans ?_)
  unfold lenOk
  by_cases h0 : 0 ≤ n <;> simp [h0]
theorem ok93 (h : HooksOK P X noHooks) : ∀ args v, h93 args = some (true, v) → Pure P X 93 args v := by
  intro args v hv
  unfold h93 at hv
  split at hv
  case h_2 => cases hv
  rename_i n
  simp only [Option.some.injEq, Prod.mk.injEq, Bool.and_eq_true, eqI_s, true_and] at hv
  subst hv
  exact okk93 h _ 
noncomputable def K2 : Hooks := (K1.call1 92 h92).call1 93 h93
theorem K2_ok (h : HooksOK P X noHooks) : HooksOK P X K2 := ((K1_ok h).call1 (ok92 h)).call1 (ok93 h)
/-! every -/
def S90a (l : List (Int × Unit)) (lf : Bool) (len : Int) (i : Int) : St :=
  ⟨[(0, .fn 91 [] []), (4, .b false), (7, .ls T3 l lf), (8, .i .i64 len), (9, .i .i64 i)], [], []⟩
theorem r90a (l : List (Int × Unit)) (lf : Bool) (len i : Int) : evRound P K2 90 2 (S90a l lf len i) =
    bif decide (i < len) then
      bif decide (0 ≤ i) && decide (i < (l.length : Int)) then
        bif !numB (ra l (Int.toNat i)).1 then some (.ret, S90a l lf len i) else some (.n, S90a l lf len (w64 (i + 1)))
      else none
    else some (.exit 0, S90a l lf len i) := by kernel_rfl
noncomputable def l90a : St → Option (Tr (Ex × St))
  | ⟨[(0, .fn 91 [] []), (4, .b false), (7, .ls [.i .i64] l lf), (8, .i .i64 len), (9, .i .i64 i)], [], []⟩ =>
    some (.test (eqI len (l.length) && (eqI i (0) && (lenB l)))
    (.test (upL (σ := Unit) (fun i _ => !numB (ra l i).1) (fun _ s => s) (l.length) (0) (())).1
      (.ok (.ret, ((fun i s => S90a l lf l.length i : Nat → Unit → St)) (upL (σ := Unit) (fun i _ => !numB (ra l i).1) (fun _ s => s) (l.length) (0) (())).2.1 (upL (σ := Unit) (fun i _ => !numB (ra l i).1) (fun _ s => s) (l.length) (0) (())).2.2))
      (.ok (.exit 0, ((fun i s => S90a l lf l.length i : Nat → Unit → St)) (upL (σ := Unit) (fun i _ => !numB (ra l i).1) (fun _ s => s) (l.length) (0) (())).2.1 (upL (σ := Unit) (fun i _ => !numB (ra l i).1) (fun _ s => s) (l.length) (0) (())).2.2)))
    .fail)
  | _ => none
theorem lrun90a (h : HooksOK P X noHooks) (l : List (Int × Unit)) (lf : Bool) (p0 : (lenB l) = true) (e : Ex) (st' : St)
    (ht : (Tr.get (.test (upL (σ := Unit) (fun i _ => !numB (ra l i).1) (fun _ s => s) (l.length) (0) (())).1
      (.ok (.ret, ((fun i s => S90a l lf l.length i : Nat → Unit → St)) (upL (σ := Unit) (fun i _ => !numB (ra l i).1) (fun _ s => s) (l.length) (0) (())).2.1 (upL (σ := Unit) (fun i _ => !numB (ra l i).1) (fun _ s => s) (l.length) (0) (())).2.2))
      (.ok (.exit 0, ((fun i s => S90a l lf l.length i : Nat → Unit → St)) (upL (σ := Unit) (fun i _ => !numB (ra l i).1) (fun _ s => s) (l.length) (0) (())).2.1 (upL (σ := Unit) (fun i _ => !numB (ra l i).1) (fun _ s => s) (l.length) (0) (())).2.2)))) = some (e, st')) : LoopV P X 90 2 (S90a l lf (l.length) (0)) e st' := by
  refine LoopV.run (K2_ok h) (σ := Unit) (n := l.length) (stop := fun i _ => !numB (ra l i).1) (step := fun _ s => s) (e1 := .ret) (e2 := .exit 0) (st := (fun i s => S90a l lf l.length i : Nat → Unit → St)) (s1 := (fun i s => S90a l lf l.length i : Nat → Unit → St)) (s2 := (fun i s => S90a l lf l.length i : Nat → Unit → St)) (fun _ _ => True)
    (fun i s hinv hi hs => ?_) (by simp) (fun i s hinv hi hs => ?_) (fun s hinv => ?_) (by simp) (l.length) (0) (()) (by omega) ?_ e st' ht

  · have hlen := lenB_s.1 p0
    rw [r90a, cond_pos (by simpa using hi), cond_pos (inB (by omega) (by omega)), Int.toNat_natCast, cond_pos hs]
  · have hlen := lenB_s.1 p0
    refine ⟨?_, trivial⟩
    rw [r90a, cond_pos (by simpa using hi), cond_pos (inB (by omega) (by omega)), Int.toNat_natCast, cond_neg hs, natS (by omega)]
  · rw [r90a, cond_neg (by simp)]
  · trivial
theorem lok90a (h : HooksOK P X noHooks) : ∀ st t e st', l90a st = some t → t.get = some (e, st') → LoopV P X 90 2 st e st' := by
  intro st t e st' hl ht
  unfold l90a at hl
  split at hl
  case h_2 => cases hl
  rename_i l lf len i
  cases hl
  replace ht := ht
  have hc : (eqI len (l.length) && (eqI i (0) && (lenB l))) = true := by
    cases hc : (eqI len (l.length) && (eqI i (0) && (lenB l))) with
    | true => rfl
    | false => rw [hc] at ht; cases ht
  rw [hc] at ht
  simp only [Bool.and_eq_true, eqI_s] at hc
  obtain ⟨rfl, rfl, p0⟩ := hc
  exact lrun90a h _ _ p0 e st' ht
def S90b (l : List (Int × Unit)) (lf : Bool) (len : Int) (i : Int) : St :=
  ⟨[(0, .fn 74 [] []), (4, .b false), (7, .ls T3 l lf), (8, .i .i64 len), (9, .i .i64 i)], [], []⟩
theorem r90b (l : List (Int × Unit)) (lf : Bool) (len i : Int) : evRound P K2 90 2 (S90b l lf len i) =
    bif decide (i < len) then
      bif decide (0 ≤ i) && decide (i < (l.length : Int)) then
        bif !dayB (ra l (Int.toNat i)).1 then some (.ret, S90b l lf len i) else some (.n, S90b l lf len (w64 (i + 1)))
      else none
    else some (.exit 0, S90b l lf len i) := by kernel_rfl
noncomputable def l90b : St → Option (Tr (Ex × St))
  | ⟨[(0, .fn 74 [] []), (4, .b false), (7, .ls [.i .i64] l lf), (8, .i .i64 len), (9, .i .i64 i)], [], []⟩ =>
    some (.test (eqI len (l.length) && (eqI i (0) && (lenB l)))
    (.test (upL (σ := Unit) (fun i _ => !dayB (ra l i).1) (fun _ s => s) (l.length) (0) (())).1
      (.ok (.ret, ((fun i s => S90b l lf l.length i : Nat → Unit → St)) (upL (σ := Unit) (fun i _ => !dayB (ra l i).1) (fun _ s => s) (l.length) (0) (())).2.1 (upL (σ := Unit) (fun i _ => !dayB (ra l i).1) (fun _ s => s) (l.length) (0) (())).2.2))
      (.ok (.exit 0, ((fun i s => S90b l lf l.length i : Nat → Unit → St)) (upL (σ := Unit) (fun i _ => !dayB (ra l i).1) (fun _ s => s) (l.length) (0) (())).2.1 (upL (σ := Unit) (fun i _ => !dayB (ra l i).1) (fun _ s => s) (l.length) (0) (())).2.2)))
    .fail)
  | _ => none
theorem lrun90b (h : HooksOK P X noHooks) (l : List (Int × Unit)) (lf : Bool) (p0 : (lenB l) = true) (e : Ex) (st' : St)
    (ht : (Tr.get (.test (upL (σ := Unit) (fun i _ => !dayB (ra l i).1) (fun _ s => s) (l.length) (0) (())).1
      (.ok (.ret, ((fun i s => S90b l lf l.length i : Nat → Unit → St)) (upL (σ := Unit) (fun i _ => !dayB (ra l i).1) (fun _ s => s) (l.length) (0) (())).2.1 (upL (σ := Unit) (fun i _ => !dayB (ra l i).1) (fun _ s => s) (l.length) (0) (())).2.2))
      (.ok (.exit 0, ((fun i s => S90b l lf l.length i : Nat → Unit → St)) (upL (σ := Unit) (fun i _ => !dayB (ra l i).1) (fun _ s => s) (l.length) (0) (())).2.1 (upL (σ := Unit) (fun i _ => !dayB (ra l i).1) (fun _ s => s) (l.length) (0) (())).2.2)))) = some (e, st')) : LoopV P X 90 2 (S90b l lf (l.length) (0)) e st' := by
  refine LoopV.run (K2_ok h) (σ := Unit) (n := l.length) (stop := fun i _ => !dayB (ra l i).1) (step := fun _ s => s) (e1 := .ret) (e2 := .exit 0) (st := (fun i s => S90b l lf l.length i : Nat → Unit → St)) (s1 := (fun i s => S90b l lf l.length i : Nat → Unit → St)) (s2 := (fun i s => S90b l lf l.length i : Nat → Unit → St)) (fun _ _ => True)
    (fun i s hinv hi hs => ?_) (by simp) (fun i s hinv hi hs => ?_) (fun s hinv => ?_) (by simp) (l.length) (0) (()) (by omega) ?_ e st' ht

  · have hlen := lenB_s.1 p0
    rw [r90b, cond_pos (by simpa using hi), cond_pos (inB (by omega) (by omega)), Int.toNat_natCast, cond_pos hs]
  · have hlen := lenB_s.1 p0
    refine ⟨?_, trivial⟩
    rw [r90b, cond_pos (by simpa using hi), cond_pos (inB (by omega) (by omega)), Int.toNat_natCast, cond_neg hs, natS (by omega)]
  · rw [r90b, cond_neg (by simp)]
  · trivial
theorem lok90b (h : HooksOK P X noHooks) : ∀ st t e st', l90b st = some t → t.get = some (e, st') → LoopV P X 90 2 st e st' := by
  intro st t e st' hl ht
  unfold l90b at hl
  split at hl
  case h_2 => cases hl
  rename_i l lf len i
  cases hl
  replace ht := ht
  have hc : (eqI len (l.length) && (eqI i (0) && (lenB l))) = true := by
    cases hc : (eqI len (l.length) && (eqI i (0) && (lenB l))) with
    | true => rfl
    | false => rw [hc] at ht; cases ht
  rw [hc] at ht
  simp only [Bool.and_eq_true, eqI_s] at hc
  obtain ⟨rfl, rfl, p0⟩ := hc
  exact lrun90b h _ _ p0 e st' ht
def S90c (l : List (Int × Unit)) (lf : Bool) (len : Int) (i : Int) : St :=
  ⟨[(0, .fn 93 [] []), (4, .b false), (7, .ls T3 l lf), (8, .i .i64 len), (9, .i .i64 i)], [], []⟩
theorem r90c (l : List (Int × Unit)) (lf : Bool) (len i : Int) : evRound P K2 90 2 (S90c l lf len i) =
    bif decide (i < len) then
      bif decide (0 ≤ i) && decide (i < (l.length : Int)) then
        bif !lenOk (ra l (Int.toNat i)).1 then some (.ret, S90c l lf len i) else some (.n, S90c l lf len (w64 (i + 1)))
      else none
    else some (.exit 0, S90c l lf len i) := by kernel_rfl
noncomputable def l90c : St → Option (Tr (Ex × St))
  | ⟨[(0, .fn 93 [] []), (4, .b false), (7, .ls [.i .i64] l lf), (8, .i .i64 len), (9, .i .i64 i)], [], []⟩ =>
    some (.test (eqI len (l.length) && (eqI i (0) && (lenB l)))
    (.test (upL (σ := Unit) (fun i _ => !lenOk (ra l i).1) (fun _ s => s) (l.length) (0) (())).1
      (.ok (.ret, ((fun i s => S90c l lf l.length i : Nat → Unit → St)) (upL (σ := Unit) (fun i _ => !lenOk (ra l i).1) (fun _ s => s) (l.length) (0) (())).2.1 (upL (σ := Unit) (fun i _ => !lenOk (ra l i).1) (fun _ s => s) (l.length) (0) (())).2.2))
      (.ok (.exit 0, ((fun i s => S90c l lf l.length i : Nat → Unit → St)) (upL (σ := Unit) (fun i _ => !lenOk (ra l i).1) (fun _ s => s) (l.length) (0) (())).2.1 (upL (σ := Unit) (fun i _ => !lenOk (ra l i).1) (fun _ s => s) (l.length) (0) (())).2.2)))
    .fail)
  | _ => none
theorem lrun90c (h : HooksOK P X noHooks) (l : List (Int × Unit)) (lf : Bool) (p0 : (lenB l) = true) (e : Ex) (st' : St)
    (ht : (Tr.get (.test (upL (σ := Unit) (fun i _ => !lenOk (ra l i).1) (fun _ s => s) (l.length) (0) (())).1
      (.ok (.ret, ((fun i s => S90c l lf l.length i : Nat → Unit → St)) (upL (σ := Unit) (fun i _ => !lenOk (ra l i).1) (fun _ s => s) (l.length) (0) (())).2.1 (upL (σ := Unit) (fun i _ => !lenOk (ra l i).1) (fun _ s => s) (l.length) (0) (())).2.2))
      (.ok (.exit 0, ((fun i s => S90c l lf l.length i : Nat → Unit → St)) (upL (σ := Unit) (fun i _ => !lenOk (ra l i).1) (fun _ s => s) (l.length) (0) (())).2.1 (upL (σ := Unit) (fun i _ => !lenOk (ra l i).1) (fun _ s => s) (l.length) (0) (())).2.2)))) = some (e, st')) : LoopV P X 90 2 (S90c l lf (l.length) (0)) e st' := by
  refine LoopV.run (K2_ok h) (σ := Unit) (n := l.length) (stop := fun i _ => !lenOk (ra l i).1) (step := fun _ s => s) (e1 := .ret) (e2 := .exit 0) (st := (fun i s => S90c l lf l.length i : Nat → Unit → St)) (s1 := (fun i s => S90c l lf l.length i : Nat → Unit → St)) (s2 := (fun i s => S90c l lf l.length i : Nat → Unit → St)) (fun _ _ => True)
    (fun i s hinv hi hs => ?_) (by simp) (fun i s hinv hi hs => ?_) (fun s hinv => ?_) (by simp) (l.length) (0) (()) (by omega) ?_ e st' ht

  · have hlen := lenB_s.1 p0
    rw [r90c, cond_pos (by simpa using hi), cond_pos (inB (by omega) (by omega)), Int.toNat_natCast, cond_pos hs]
  · have hlen := lenB_s.1 p0
    refine ⟨?_, trivial⟩
    rw [r90c, cond_pos (by simpa using hi), cond_pos (inB (by omega) (by omega)), Int.toNat_natCast, cond_neg hs, natS (by omega)]
  · rw [r90c, cond_neg (by simp)]
  · trivial
theorem lok90c (h : HooksOK P X noHooks) : ∀ st t e st', l90c st = some t → t.get = some (e, st') → LoopV P X 90 2 st e st' := by
  intro st t e st' hl ht
  unfold l90c at hl
  split at hl
  case h_2 => cases hl
  rename_i l lf len i
  cases hl
  replace ht := ht
  have hc : (eqI len (l.length) && (eqI i (0) && (lenB l))) = true := by
    cases hc : (eqI len (l.length) && (eqI i (0) && (lenB l))) with
    | true => rfl
    | false => rw [hc] at ht; cases ht
  rw [hc] at ht
  simp only [Bool.and_eq_true, eqI_s] at hc
  obtain ⟨rfl, rfl, p0⟩ := hc
  exact lrun90c h _ _ p0 e st' ht
def S90d (l : List (Int × Unit)) (lf : Bool) (len : Int) (i : Int) : St :=
  ⟨[(0, .fn 92 [] []), (4, .b false), (7, .ls T3 l lf), (8, .i .i64 len), (9, .i .i64 i)], [], []⟩
theorem r90d (l : List (Int × Unit)) (lf : Bool) (len i : Int) : evRound P K2 90 2 (S90d l lf len i) =
    bif decide (i < len) then
      bif decide (0 ≤ i) && decide (i < (l.length : Int)) then
        bif !gramB (ra l (Int.toNat i)).1 then some (.ret, S90d l lf len i) else some (.n, S90d l lf len (w64 (i + 1)))
      else none
    else some (.exit 0, S90d l lf len i) := by kernel_rfl
noncomputable def l90d : St → Option (Tr (Ex × St))
  | ⟨[(0, .fn 92 [] []), (4, .b false), (7, .ls [.i .i64] l lf), (8, .i .i64 len), (9, .i .i64 i)], [], []⟩ =>
    some (.test (eqI len (l.length) && (eqI i (0) && (lenB l)))
    (.test (upL (σ := Unit) (fun i _ => !gramB (ra l i).1) (fun _ s => s) (l.length) (0) (())).1
      (.ok (.ret, ((fun i s => S90d l lf l.length i : Nat → Unit → St)) (upL (σ := Unit) (fun i _ => !gramB (ra l i).1) (fun _ s => s) (l.length) (0) (())).2.1 (upL (σ := Unit) (fun i _ => !gramB (ra l i).1) (fun _ s => s) (l.length) (0) (())).2.2))
      (.ok (.exit 0, ((fun i s => S90d l lf l.length i : Nat → Unit → St)) (upL (σ := Unit) (fun i _ => !gramB (ra l i).1) (fun _ s => s) (l.length) (0) (())).2.1 (upL (σ := Unit) (fun i _ => !gramB (ra l i).1) (fun _ s => s) (l.length) (0) (())).2.2)))
    .fail)
  | _ => none
theorem lrun90d (h : HooksOK P X noHooks) (l : List (Int × Unit)) (lf : Bool) (p0 : (lenB l) = true) (e : Ex) (st' : St)
    (ht : (Tr.get (.test (upL (σ := Unit) (fun i _ => !gramB (ra l i).1) (fun _ s => s) (l.length) (0) (())).1
      (.ok (.ret, ((fun i s => S90d l lf l.length i : Nat → Unit → St)) (upL (σ := Unit) (fun i _ => !gramB (ra l i).1) (fun _ s => s) (l.length) (0) (())).2.1 (upL (σ := Unit) (fun i _ => !gramB (ra l i).1) (fun _ s => s) (l.length) (0) (())).2.2))
      (.ok (.exit 0, ((fun i s => S90d l lf l.length i : Nat → Unit → St)) (upL (σ := Unit) (fun i _ => !gramB (ra l i).1) (fun _ s => s) (l.length) (0) (())).2.1 (upL (σ := Unit) (fun i _ => !gramB (ra l i).1) (fun _ s => s) (l.length) (0) (())).2.2)))) = some (e, st')) : LoopV P X 90 2 (S90d l lf (l.length) (0)) e st' := by
  refine LoopV.run (K2_ok h) (σ := Unit) (n := l.length) (stop := fun i _ => !gramB (ra l i).1) (step := fun _ s => s) (e1 := .ret) (e2 := .exit 0) (st := (fun i s => S90d l lf l.length i : Nat → Unit → St)) (s1 := (fun i s => S90d l lf l.length i : Nat → Unit → St)) (s2 := (fun i s => S90d l lf l.length i : Nat → Unit → St)) (fun _ _ => True)
    (fun i s hinv hi hs => ?_) (by simp) (fun i s hinv hi hs => ?_) (fun s hinv => ?_) (by simp) (l.length) (0) (()) (by omega) ?_ e st' ht

  · have hlen := lenB_s.1 p0
    rw [r90d, cond_pos (by simpa using hi), cond_pos (inB (by omega) (by omega)), Int.toNat_natCast, cond_pos hs]
  · have hlen := lenB_s.1 p0
    refine ⟨?_, trivial⟩
    rw [r90d, cond_pos (by simpa using hi), cond_pos (inB (by omega) (by omega)), Int.toNat_natCast, cond_neg hs, natS (by omega)]
  · rw [r90d, cond_neg (by simp)]
  · trivial
theorem lok90d (h : HooksOK P X noHooks) : ∀ st t e st', l90d st = some t → t.get = some (e, st') → LoopV P X 90 2 st e st' := by
  intro st t e st' hl ht
  unfold l90d at hl
  split at hl
  case h_2 => cases hl
  rename_i l lf len i
  cases hl
  replace ht := ht
  have hc : (eqI len (l.length) && (eqI i (0) && (lenB l))) = true := by
    cases hc : (eqI len (l.length) && (eqI i (0) && (lenB l))) with
    | true => rfl
    | false => rw [hc] at ht; cases ht
  rw [hc] at ht
  simp only [Bool.and_eq_true, eqI_s] at hc
  obtain ⟨rfl, rfl, p0⟩ := hc
  exact lrun90d h _ _ p0 e st' ht
noncomputable def K3 : Hooks := K2.loop1 90 2 (orL l90a (orL l90b (orL l90c l90d)))
theorem K3_ok (h : HooksOK P X noHooks) : HooksOK P X K3 := (K2_ok h).loop1 (lok_or (lok90a h) (lok_or (lok90b h) (lok_or (lok90c h) (lok90d h))))
theorem e90a (l : List (Int × Unit)) (lf : Bool) : evP P K3 90 [.fn 91 [] [], .ls T3 l lf] =
    bif eqI (l.length : Int) (l.length : Int) && (eqI 0 0 && lenB l) then
      bif (upL (σ := Unit) (fun i _ => !numB (ra l i).1) (fun _ s => s) l.length 0 ()).1 then some (.b false) else some (.b true)
    else none := by kernel_rfl
noncomputable def h90a : List V → Option (Bool × V)
  | [.fn 91 [] [], .ls [.i .i64] l lf] => some ((lenB l), .b (everyB numB l))
  | _ => none
theorem okk90a (h : HooksOK P X noHooks) (l : List (Int × Unit)) (lf : Bool) (p0 : (lenB l) = true) : Pure P X 90 [.fn 91 [] [], .ls T3 l lf] (.b (everyB numB l)) := by

  refine evP_sound (K3_ok h) ((e90a l lf).trans ?_)
  rw [cond_pos (by simp [eqI_s, p0])]
  unfold everyB
  cases (upL (σ := Unit) (fun i _ => !numB (ra l i).1) (fun _ s => s) l.length 0 ()).1 <;> rfl
theorem ok90a (h : HooksOK P X noHooks) : ∀ args v, h90a args = some (true, v) → Pure P X 90 args v := by
  intro args v hv
  unfold h90a at hv
  split at hv
  case h_2 => cases hv
  rename_i l lf
  simp only [Option.some.injEq, Prod.mk.injEq, Bool.and_eq_true, eqI_s, true_and] at hv
  obtain ⟨p0, rfl⟩ := hv
  exact okk90a h _ _ p0
theorem e90b (l : List (Int × Unit)) (lf : Bool) : evP P K3 90 [.fn 74 [] [], .ls T3 l lf] =
    bif eqI (l.length : Int) (l.length : Int) && (eqI 0 0 && lenB l) then
      bif (upL (σ := Unit) (fun i _ => !dayB (ra l i).1) (fun _ s => s) l.length 0 ()).1 then some (.b false) else some (.b true)
    else none := by kernel_rfl
noncomputable def h90b : List V → Option (Bool × V)
  | [.fn 74 [] [], .ls [.i .i64] l lf] => some ((lenB l), .b (everyB dayB l))
  | _ => none
theorem okk90b (h : HooksOK P X noHooks) (l : List (Int × Unit)) (lf : Bool) (p0 : (lenB l) = true) : Pure P X 90 [.fn 74 [] [], .ls T3 l lf] (.b (everyB dayB l)) := by

  refine evP_sound (K3_ok h) ((e90b l lf).trans ?_)
  rw [cond_pos (by simp [eqI_s, p0])]
  unfold everyB
  cases (upL (σ := Unit) (fun i _ => !dayB (ra l i).1) (fun _ s => s) l.length 0 ()).1 <;> rfl
theorem ok90b (h : HooksOK P X noHooks) : ∀ args v, h90b args = some (true, v) → Pure P X 90 args v := by
  intro args v hv
  unfold h90b at hv
  split at hv
  case h_2 => cases hv
  rename_i l lf
  simp only [Option.some.injEq, Prod.mk.injEq, Bool.and_eq_true, eqI_s, true_and] at hv
  obtain ⟨p0, rfl⟩ := hv
  exact okk90b h _ _ p0
theorem e90c (l : List (Int × Unit)) (lf : Bool) : evP P K3 90 [.fn 93 [] [], .ls T3 l lf] =
    bif eqI (l.length : Int) (l.length : Int) && (eqI 0 0 && lenB l) then
      bif (upL (σ := Unit) (fun i _ => !lenOk (ra l i).1) (fun _ s => s) l.length 0 ()).1 then some (.b false) else some (.b true)
    else none := by kernel_rfl
noncomputable def h90c : List V → Option (Bool × V)
  | [.fn 93 [] [], .ls [.i .i64] l lf] => some ((lenB l), .b (everyB lenOk l))
  | _ => none
theorem okk90c (h : HooksOK P X noHooks) (l : List (Int × Unit)) (lf : Bool) (p0 : (lenB l) = true) : Pure P X 90 [.fn 93 [] [], .ls T3 l lf] (.b (everyB lenOk l)) := by

  refine evP_sound (K3_ok h) ((e90c l lf).trans ?_)
  rw [cond_pos (by simp [eqI_s, p0])]
  unfold everyB
  cases (upL (σ := Unit) (fun i _ => !lenOk (ra l i).1) (fun _ s => s) l.length 0 ()).1 <;> rfl
theorem ok90c (h : HooksOK P X noHooks) : ∀ args v, h90c args = some (true, v) → Pure P X 90 args v := by
  intro args v hv
  unfold h90c at hv
  split at hv
  case h_2 => cases hv
  rename_i l lf
  simp only [Option.some.injEq, Prod.mk.injEq, Bool.and_eq_true, eqI_s, true_and] at hv
  obtain ⟨p0, rfl⟩ := hv
  exact okk90c h _ _ p0
theorem e90d (l : List (Int × Unit)) (lf : Bool) : evP P K3 90 [.fn 92 [] [], .ls T3 l lf] =
    bif eqI (l.length : Int) (l.length : Int) && (eqI 0 0 && lenB l) then
      bif (upL (σ := Unit) (fun i _ => !gramB (ra l i).1) (fun _ s => s) l.length 0 ()).1 then some (.b false) else some (.b true)
    else none := by kernel_rfl
noncomputable def h90d : List V → Option (Bool × V)
  | [.fn 92 [] [], .ls [.i .i64] l lf] => some ((lenB l), .b (everyB gramB l))
  | _ => none
theorem okk90d (h : HooksOK P X noHooks) (l : List (Int × Unit)) (lf : Bool) (p0 : (lenB l) = true) : Pure P X 90 [.fn 92 [] [], .ls T3 l lf] (.b (everyB gramB l)) := by

  refine evP_sound (K3_ok h) ((e90d l lf).trans ?_)
  rw [cond_pos (by simp [eqI_s, p0])]
  unfold everyB
  cases (upL (σ := Unit) (fun i _ => !gramB (ra l i).1) (fun _ s => s) l.length 0 ()).1 <;> rfl
theorem ok90d (h : HooksOK P X noHooks) : ∀ args v, h90d args = some (true, v) → Pure P X 90 args v := by
  intro args v hv
  unfold h90d at hv
  split at hv
  case h_2 => cases hv
  rename_i l lf
  simp only [Option.some.injEq, Prod.mk.injEq, Bool.and_eq_true, eqI_s, true_and] at hv
  obtain ⟨p0, rfl⟩ := hv
  exact okk90d h _ _ p0
noncomputable def K4 : Hooks := K3.call1 90 (orC h90a (orC h90b (orC h90c h90d)))
theorem K4_ok (h : HooksOK P X noHooks) : HooksOK P X K4 := (K3_ok h).call1 (ok_or (ok90a h) (ok_or (ok90b h) (ok_or (ok90c h) (ok90d h))))
end Go.Mini.Co
end
section
set_option linter.unusedVariables false
set_option linter.unusedSimpArgs false
set_option maxRecDepth 100000
namespace Go.Mini.Co
open Go Go.Mini
variable {X : Fz → Prop}
def addRest (no rate a b c d : Int) (ts : List Test) (fl : Bool) : Option V :=
  bif eqI 0 0 && (eqI (ts.length : Int) (ts.length : Int) && (eqI 0 0 && (eqT ts ts && (eqB fl fl && (okRate rate && (okTest (a, b, c, d, ()) && (allOk ts && lenB ts))))))) then
    bif (upL (σ := Unit) (fun i _ => contraB rate (a, b, c, d, ()) (ta ts i)) (fun _ s => s) ts.length 0 ()).1 then some (.tup [.agg [.i .i64 0, .i .i64 0, .ls T26 [] false], .i .i64 13]) else
    bif (decide ((0 : Int) ≤ (ts.length : Int)) && decide ((ts.length : Int) ≤ (ts.length : Int))) && decide ((ts.length : Int) = ((Int.toNat (ts.length : Int) : Nat) : Int)) then
      bif (true && (List.isEmpty (cutL ts none (some (Int.toNat (ts.length : Int)))) || !List.isEmpty [((a, b, c, d, ()) : Test)])) && decide ((List.length (cutL ts none (some (Int.toNat (ts.length : Int)))) + List.length [((a, b, c, d, ()) : Test)]) * 32 ≤ 140737488355328) then
        some (.tup [.agg [.i .i64 no, .i .i64 rate, .ls T26 (cutL ts none (some (Int.toNat (ts.length : Int))) ++ [((a, b, c, d, ()) : Test)]) false], .i .i64 0])
      else none
    else none
  else none
theorem e16 (no rate a b c d : Int) (ts : List Test) (fl : Bool) : evP P K4 16 [.agg [.i .i64 no, .i .i64 rate, .ls T26 ts fl], .agg [.i .i64 a, .i .i64 b, .i .i64 c, .i .i64 d]] =
    bif scaleE no rate ts != 0 then some (.tup [.agg [.i .i64 0, .i .i64 0, .ls T26 [] false], .i .i64 (scaleE no rate ts)]) else
    bif errB (okTest (a, b, c, d, ())) 10 != 0 then some (.tup [.agg [.i .i64 0, .i .i64 0, .ls T26 [] false], .i .i64 10]) else
    bif (ts.length : Int) == 64 then some (.tup [.agg [.i .i64 0, .i .i64 0, .ls T26 [] false], .i .i64 2]) else
    bif decide ((ts.length : Int) > 0) then
      bif decide (0 ≤ w64 ((ts.length : Int) - 1)) && decide (w64 ((ts.length : Int) - 1) < (ts.length : Int)) then
        bif decide (b < (ta ts (Int.toNat (w64 ((ts.length : Int) - 1)))).2.1) then some (.tup [.agg [.i .i64 0, .i .i64 0, .ls T26 [] false], .i .i64 1]) else addRest no rate a b c d ts fl
      else none
    else addRest no rate a b c d ts fl := by kernel_rfl
theorem addRest_eq {no rate a b c d : Int} {ts : List Test} {fl : Bool} (hs : scaleE no rate ts = 0) (ht : okTest (a, b, c, d, ()) = true) :
    addRest no rate a b c d ts fl = bif (addU rate ts (a, b, c, d, ())).1 then some (.tup [.agg [.i .i64 0, .i .i64 0, .ls T26 [] false], .i .i64 13]) else some (.tup [.agg [.i .i64 no, .i .i64 rate, .ls T26 (ts ++ [(a, b, c, d, ())]) false], .i .i64 0]) := by
  obtain ⟨q1, q2, q3⟩ := okScale_s.1 (wellB_scale (scaleE_0 hs).1)
  have hl := wellB_len (scaleE_0 hs).1
  have hc : cutL ts none (some (Int.toNat (ts.length : Int))) = ts := by
    show List.take (Int.toNat (ts.length : Int)) ts = ts
    rw [Int.toNat_natCast, List.take_length]
  unfold addRest
  rw [hc, cond_pos (by simp [eqI_s, eqT_s, eqB_s, q1, q2, q3, ht])]
  cases hu : (addU rate ts (a, b, c, d, ())).1 with
  | true =>
    unfold addU at hu
    rw [cond_pos hu]; rfl
  | false =>
    unfold addU at hu
    rw [cond_neg hu, cond_pos (by simp), cond_pos (by simp; omega)]
    rfl
noncomputable def h16 : List V → Option (Bool × V)
  | [.agg [.i .i64 no, .i .i64 rate, .ls [.i .i64, .i .i64, .i .i64, .i .i64] ts fl], .agg [.i .i64 a, .i .i64 b, .i .i64 c, .i .i64 d]] => some (true, .tup [.agg [.i .i64 (spanIf (addE no rate ts (a, b, c, d, ())) no), .i .i64 (spanIf (addE no rate ts (a, b, c, d, ())) rate), .ls T26 (addT no rate ts (a, b, c, d, ())) false], .i .i64 (addE no rate ts (a, b, c, d, ()))])
  | _ => none
theorem okk16 (h : HooksOK P X noHooks) (no : Int) (rate : Int) (ts : List Test) (fl : Bool) (a : Int) (b : Int) (c : Int) (d : Int)  : Pure P X 16 [.agg [.i .i64 no, .i .i64 rate, .ls T26 ts fl], .agg [.i .i64 a, .i .i64 b, .i .i64 c, .i .i64 d]] (.tup [.agg [.i .i64 (spanIf (addE no rate ts (a, b, c, d, ())) no), .i .i64 (spanIf (addE no rate ts (a, b, c, d, ())) rate), .ls T26 (addT no rate ts (a, b, c, d, ())) false], .i .i64 (addE no rate ts (a, b, c, d, ()))]) := by

  refine evP_sound (K4_ok h) ((e16 no rate a b c d ts fl).trans ?_)
  unfold addT spanIf
  cases hsc : eqI (scaleE no rate ts) 0 with
  | false =>
    have e : addE no rate ts (a, b, c, d, ()) = scaleE no rate ts := by unfold addE; rw [hsc]; rfl
    rw [neq0, hsc, e, hsc]; rfl
  | true =>
    have hs := eqI_s.1 hsc
    rw [neq0, hsc, cond_neg (by rfl)]
    cases ht : okTest (a, b, c, d, ()) with
    | false =>
      have e : addE no rate ts (a, b, c, d, ()) = 10 := by unfold addE; rw [hsc, ht]; rfl
      rw [e]; rfl
    | true =>
      have hl := wellB_len (scaleE_0 hs).1
      rw [cond_neg (by rfl)]
      by_cases h64 : ts.length = 64
      · have e : addE no rate ts (a, b, c, d, ()) = 2 := by unfold addE; rw [hsc, ht, h64]; rfl
        rw [e, h64]; rfl
      · have e1 : ((ts.length : Int) == 64) = false := by simp; omega
        have e2 : decide (ts.length = 64) = false := by simpa using h64
        rw [e1, cond_neg (by rfl), addRest_eq hs ht]
        have key : (decide (0 < ts.length) && decide (b < (ta ts (ts.length - 1)).2.1)) = false → (bif (addU rate ts (a, b, c, d, ())).1 then some (.tup [.agg [.i .i64 0, .i .i64 0, .ls T26 [] false], .i .i64 13]) else some (.tup [.agg [.i .i64 no, .i .i64 rate, .ls T26 (ts ++ [(a, b, c, d, ())]) false], .i .i64 0])) =
            some (V.tup [.agg [.i .i64 (bif eqI (addE no rate ts (a, b, c, d, ())) 0 then no else 0), .i .i64 (bif eqI (addE no rate ts (a, b, c, d, ())) 0 then rate else 0), .ls T26 (bif eqI (addE no rate ts (a, b, c, d, ())) 0 then ts ++ [(a, b, c, d, ())] else []) false], .i .i64 (addE no rate ts (a, b, c, d, ()))]) := by
          intro hk
          cases hu : (addU rate ts (a, b, c, d, ())).1 with
          | true =>
            have e : addE no rate ts (a, b, c, d, ()) = 13 := by unfold addE; rw [hsc, ht, e2, hk, hu]; rfl
            rw [e]; rfl
          | false =>
            have e : addE no rate ts (a, b, c, d, ()) = 0 := by unfold addE; rw [hsc, ht, e2, hk, hu]; rfl
            rw [e]; rfl
        by_cases h0 : 0 < ts.length
        · rw [cond_pos (by simpa using h0), predS h0 (by omega), cond_pos (inB (by omega) (by omega)), Int.toNat_natCast]
          cases hb : decide (b < (ta ts (ts.length - 1)).2.1) with
          | true =>
            have e : addE no rate ts (a, b, c, d, ()) = 1 := by
              unfold addE
              rw [hsc, ht, e2, show decide (0 < ts.length) = true by simpa using h0, hb]; rfl
            rw [e]; rfl
          | false => exact key (by rw [hb, Bool.and_false])
        · rw [cond_neg (by simpa using h0)]
          exact key (by rw [show decide (0 < ts.length) = false by simpa using h0, Bool.false_and])
theorem ok16 (h : HooksOK P X noHooks) : ∀ args v, h16 args = some (true, v) → Pure P X 16 args v := by
  intro args v hv
  unfold h16 at hv
  split at hv
  case h_2 => cases hv
  rename_i no rate ts fl a b c d
  simp only [Option.some.injEq, Prod.mk.injEq, Bool.and_eq_true, eqI_s, true_and] at hv
  subst hv
  exact okk16 h _ _ _ _ _ _ _ _ 
noncomputable def K5 : Hooks := K4.call1 16 h16
theorem K5_ok (h : HooksOK P X noHooks) : HooksOK P X K5 := (K4_ok h).call1 (ok16 h)
/-! CheckSheet -/
theorem every2 (p : Int → Bool) (a b : Int) : everyB p [(a, ()), (b, ())] = (p a && p b) := by
  have : everyB p [(a, ()), (b, ())] = !(upL (σ := Unit) (fun i _ => !p (ra [(a, ()), (b, ())] i).1) (fun _ s => s) 2 0 ()).1 := rfl
  rw [this]
  simp only [upL, ra]
  cases h1 : p a <;> cases h2 : p b <;> simp [h1, h2]
theorem every3 (p : Int → Bool) (a b c : Int) : everyB p [(a, ()), (b, ()), (c, ())] = (p a && (p b && p c)) := by
  have : everyB p [(a, ()), (b, ()), (c, ())] = !(upL (σ := Unit) (fun i _ => !p (ra [(a, ()), (b, ()), (c, ())] i).1) (fun _ s => s) 3 0 ()).1 := rfl
  rw [this]
  simp only [upL, ra]
  cases h1 : p a <;> cases h2 : p b <;> cases h3 : p c <;> simp [h1, h2, h3]
theorem lenOk_s {n : Int} : lenOk n = true ↔ 0 ≤ n ∧ n ≤ 20000 := by simp [lenOk]
theorem gramB_s {n : Int} : gramB n = true ↔ 0 ≤ n ∧ n ≤ 1048576 := by simp [gramB]
def S31 (n1 : Int) (n2 : Int) (n3 : Int) (n4 : Int) (n5 : Int) (n6 : Int) (n7 : Int) (n8 : Int) (sk : List Stk) (sf : Bool) (r : Int) (len : Int) (i : Int) (l1 : List (Int × Unit)) (l2 : List (Int × Unit)) : St :=
  ⟨[(2, .i .i64 r), (54, .ls T71 sk sf), (55, .i .i64 len), (56, .i .i64 i)], [.c 47 [.i .i64 n1, .i .i64 n2, .i .i64 n3, .i .i64 n4, .i .i64 n5, .i .i64 n6, .i .i64 n7, .i .i64 n8, .ls T71 sk sf], .r 3 T3 l1 true, .r 3 T3 l2 true], []⟩
theorem r31 (n1 n2 n3 n4 n5 n6 n7 n8 : Int) (sk : List Stk) (sf : Bool) (len i : Int) (l1 l2 : List (Int × Unit)) : evRound P K5 31 5 (S31 n1 n2 n3 n4 n5 n6 n7 n8 sk sf 0 len i l1 l2) =
    bif decide (i < len) then
      bif decide (0 ≤ i) && decide (i < (sk.length : Int)) then
        bif !everyB lenOk [((sa sk (Int.toNat i)).1, ()), ((sa sk (Int.toNat i)).2.1, ()), ((sa sk (Int.toNat i)).2.2.2.1, ())] then some (.ret, S31 n1 n2 n3 n4 n5 n6 n7 n8 sk sf 12 len i l1 l2) else
        bif decide (w64 ((sa sk (Int.toNat i)).2.1 + (sa sk (Int.toNat i)).2.2.2.1) > (sa sk (Int.toNat i)).1) then some (.ret, S31 n1 n2 n3 n4 n5 n6 n7 n8 sk sf 12 len i l1 l2) else
        bif !everyB gramB [((sa sk (Int.toNat i)).2.2.1, ()), ((sa sk (Int.toNat i)).2.2.2.2.1, ())] then some (.ret, S31 n1 n2 n3 n4 n5 n6 n7 n8 sk sf 12 len i l1 l2) else some (.n, S31 n1 n2 n3 n4 n5 n6 n7 n8 sk sf 0 len (w64 (i + 1)) l1 l2)
      else none
    else some (.exit 0, S31 n1 n2 n3 n4 n5 n6 n7 n8 sk sf 0 len i l1 l2) := by kernel_rfl
noncomputable def l31 : St → Option (Tr (Ex × St))
  | ⟨[(2, .i .i64 r), (54, .ls [.i .i64, .i .i64, .i .i64, .i .i64, .i .i64] sk sf), (55, .i .i64 len), (56, .i .i64 i)], [.c 47 [.i .i64 n1, .i .i64 n2, .i .i64 n3, .i .i64 n4, .i .i64 n5, .i .i64 n6, .i .i64 n7, .i .i64 n8, .ls [.i .i64, .i .i64, .i .i64, .i .i64, .i .i64] sk' sf'], .r 3 [.i .i64] l1 true, .r 3 [.i .i64] l2 true], []⟩ =>
    some (.test (eqI r (0) && (eqI len (sk.length) && (eqI i (0) && (eqS sk' sk && (eqB sf' sf && (lenB sk))))))
    (.test (upL (σ := Unit) (fun i _ => !stakeB (sa sk i)) (fun _ s => s) (sk.length) (0) (())).1
      (.ok (.ret, ((fun i s => S31 n1 n2 n3 n4 n5 n6 n7 n8 sk sf 12 sk.length i l1 l2 : Nat → Unit → St)) (upL (σ := Unit) (fun i _ => !stakeB (sa sk i)) (fun _ s => s) (sk.length) (0) (())).2.1 (upL (σ := Unit) (fun i _ => !stakeB (sa sk i)) (fun _ s => s) (sk.length) (0) (())).2.2))
      (.ok (.exit 0, ((fun i s => S31 n1 n2 n3 n4 n5 n6 n7 n8 sk sf 0 sk.length i l1 l2 : Nat → Unit → St)) (upL (σ := Unit) (fun i _ => !stakeB (sa sk i)) (fun _ s => s) (sk.length) (0) (())).2.1 (upL (σ := Unit) (fun i _ => !stakeB (sa sk i)) (fun _ s => s) (sk.length) (0) (())).2.2)))
    .fail)
  | _ => none
theorem lrun31 (h : HooksOK P X noHooks) (n1 : Int) (n2 : Int) (n3 : Int) (n4 : Int) (n5 : Int) (n6 : Int) (n7 : Int) (n8 : Int) (sk : List Stk) (sf : Bool) (l1 : List (Int × Unit)) (l2 : List (Int × Unit)) (p0 : (lenB sk) = true) (e : Ex) (st' : St)
    (ht : (Tr.get (.test (upL (σ := Unit) (fun i _ => !stakeB (sa sk i)) (fun _ s => s) (sk.length) (0) (())).1
      (.ok (.ret, ((fun i s => S31 n1 n2 n3 n4 n5 n6 n7 n8 sk sf 12 sk.length i l1 l2 : Nat → Unit → St)) (upL (σ := Unit) (fun i _ => !stakeB (sa sk i)) (fun _ s => s) (sk.length) (0) (())).2.1 (upL (σ := Unit) (fun i _ => !stakeB (sa sk i)) (fun _ s => s) (sk.length) (0) (())).2.2))
      (.ok (.exit 0, ((fun i s => S31 n1 n2 n3 n4 n5 n6 n7 n8 sk sf 0 sk.length i l1 l2 : Nat → Unit → St)) (upL (σ := Unit) (fun i _ => !stakeB (sa sk i)) (fun _ s => s) (sk.length) (0) (())).2.1 (upL (σ := Unit) (fun i _ => !stakeB (sa sk i)) (fun _ s => s) (sk.length) (0) (())).2.2)))) = some (e, st')) : LoopV P X 31 5 (S31 n1 n2 n3 n4 n5 n6 n7 n8 sk sf (0) (sk.length) (0) l1 l2) e st' := by
  refine LoopV.run (K5_ok h) (σ := Unit) (n := sk.length) (stop := fun i _ => !stakeB (sa sk i)) (step := fun _ s => s) (e1 := .ret) (e2 := .exit 0) (st := (fun i s => S31 n1 n2 n3 n4 n5 n6 n7 n8 sk sf 0 sk.length i l1 l2 : Nat → Unit → St)) (s1 := (fun i s => S31 n1 n2 n3 n4 n5 n6 n7 n8 sk sf 12 sk.length i l1 l2 : Nat → Unit → St)) (s2 := (fun i s => S31 n1 n2 n3 n4 n5 n6 n7 n8 sk sf 0 sk.length i l1 l2 : Nat → Unit → St)) (fun _ _ => True)
    (fun i s hinv hi hs => ?_) (by simp) (fun i s hinv hi hs => ?_) (fun s hinv => ?_) (by simp) (sk.length) (0) (()) (by omega) ?_ e st' ht

  · have hlen := lenB_s.1 p0
    rw [r31, cond_pos (by simpa using hi), cond_pos (inB (by omega) (by omega)), Int.toNat_natCast]
    unfold stakeB at hs
    cases c1 : everyB lenOk [((sa sk i).1, ()), ((sa sk i).2.1, ()), ((sa sk i).2.2.2.1, ())] with
    | false => rfl
    | true =>
      rw [cond_neg (by rfl)]
      have c1' := c1
      rw [every3, Bool.and_eq_true, Bool.and_eq_true, lenOk_s, lenOk_s, lenOk_s] at c1'
      rw [w64S (by omega) (by omega), gt_not]
      rw [c1] at hs
      cases c2 : decide ((sa sk i).2.1 + (sa sk i).2.2.2.1 ≤ (sa sk i).1) with
      | false => rfl
      | true =>
        rw [c2] at hs
        rw [cond_neg (by rfl)]
        simp only [Bool.true_and] at hs
        rw [cond_pos hs]
  · have hlen := lenB_s.1 p0
    refine ⟨?_, trivial⟩
    rw [r31, cond_pos (by simpa using hi), cond_pos (inB (by omega) (by omega)), Int.toNat_natCast, natS (by omega)]
    unfold stakeB at hs
    simp only [Bool.not_eq_false', Bool.and_eq_true] at hs
    obtain ⟨c1, c2, c3⟩ := hs
    have c1' := c1
    rw [every3, Bool.and_eq_true, Bool.and_eq_true, lenOk_s, lenOk_s, lenOk_s] at c1'
    rw [c1, cond_neg (by rfl), w64S (by omega) (by omega), gt_not, c2, cond_neg (by rfl), c3, cond_neg (by rfl)]
  · rw [r31, cond_neg (by simp)]
  · trivial
theorem lok31 (h : HooksOK P X noHooks) : ∀ st t e st', l31 st = some t → t.get = some (e, st') → LoopV P X 31 5 st e st' := by
  intro st t e st' hl ht
  unfold l31 at hl
  split at hl
  case h_2 => cases hl
  rename_i r sk sf len i n1 n2 n3 n4 n5 n6 n7 n8 sk' sf' l1 l2
  cases hl
  replace ht := ht
  have hc : (eqI r (0) && (eqI len (sk.length) && (eqI i (0) && (eqS sk' sk && (eqB sf' sf && (lenB sk)))))) = true := by
    cases hc : (eqI r (0) && (eqI len (sk.length) && (eqI i (0) && (eqS sk' sk && (eqB sf' sf && (lenB sk)))))) with
    | true => rfl
    | false => rw [hc] at ht; cases ht
  rw [hc] at ht
  simp only [Bool.and_eq_true, eqI_s] at hc
  obtain ⟨rfl, rfl, rfl, q_skx, q_sfx, p0⟩ := hc
  obtain rfl := eqS_s.1 q_skx
  obtain rfl := eqB_s.1 q_sfx
  exact lrun31 h _ _ _ _ _ _ _ _ _ _ _ _ p0 e st' ht
noncomputable def K6 : Hooks := K5.loop1 31 5 l31
theorem K6_ok (h : HooksOK P X noHooks) : HooksOK P X K6 := (K5_ok h).loop1 (lok31 h)
theorem e31 (n1 n2 n3 n4 n5 n6 n7 n8 : Int) (sk : List Stk) (sf : Bool) : evP P K6 31 [.agg [.i .i64 n1, .i .i64 n2, .i .i64 n3, .i .i64 n4, .i .i64 n5, .i .i64 n6, .i .i64 n7, .i .i64 n8, .ls T71 sk sf]] =
    bif everyB numB [(n1, ()), (n2, ()), (n5, ())] then
      bif everyB dayB [(n3, ()), (n4, ()), (n8, ())] then
        bif !gramB n7 then some (.i .i64 12) else
        bif decide (n6 < 1) then some (.i .i64 12) else
        bif decide (n6 > 1000) then some (.i .i64 12) else
        bif decide ((sk.length : Int) < 1) then some (.i .i64 12) else
        bif decide ((sk.length : Int) > 32) then some (.i .i64 12) else
        bif eqI 0 0 && (eqI (sk.length : Int) (sk.length : Int) && (eqI 0 0 && (eqS sk sk && (eqB sf sf && lenB sk)))) then
          bif (stakesU sk).1 then some (.i .i64 12) else some (.i .i64 0)
        else none
      else some (.i .i64 12)
    else some (.i .i64 12) := by kernel_rfl
noncomputable def h31 : List V → Option (Bool × V)
  | [.agg [.i .i64 n1, .i .i64 n2, .i .i64 n3, .i .i64 n4, .i .i64 n5, .i .i64 n6, .i .i64 n7, .i .i64 n8, .ls [.i .i64, .i .i64, .i .i64, .i .i64, .i .i64] sk sf]] => some (true, .i .i64 (errB (sheetB ⟨n1, n2, n3, n4, n5, n6, n7, n8, sk⟩) 12))
  | _ => none
theorem okk31 (h : HooksOK P X noHooks) (n1 : Int) (n2 : Int) (n3 : Int) (n4 : Int) (n5 : Int) (n6 : Int) (n7 : Int) (n8 : Int) (sk : List Stk) (sf : Bool)  : Pure P X 31 [.agg [.i .i64 n1, .i .i64 n2, .i .i64 n3, .i .i64 n4, .i .i64 n5, .i .i64 n6, .i .i64 n7, .i .i64 n8, .ls T71 sk sf]] (.i .i64 (errB (sheetB ⟨n1, n2, n3, n4, n5, n6, n7, n8, sk⟩) 12)) := by

  refine evP_sound (K6_ok h) ((e31 n1 n2 n3 n4 n5 n6 n7 n8 sk sf).trans ?_)
  unfold sheetB errB
  have e1 : decide ((sk.length : Int) < 1) = !decide (1 ≤ sk.length) := by by_cases h0 : 1 ≤ sk.length <;> simp [h0] <;> omega
  have e2 : decide ((sk.length : Int) > 32) = !decide (sk.length ≤ 32) := by by_cases h0 : sk.length ≤ 32 <;> simp [h0] <;> omega
  simp only [e1, e2, lt_not, gt_not]
  cases everyB numB [(n1, ()), (n2, ()), (n5, ())] with
  | false => rfl
  | true =>
    cases everyB dayB [(n3, ()), (n4, ()), (n8, ())] with
    | false => rfl
    | true =>
      cases gramB n7 <;> cases decide (1 ≤ n6) <;> cases decide (n6 ≤ 1000) <;> cases decide (1 ≤ sk.length) <;> try rfl
      cases hl : decide (sk.length ≤ 32) with
      | false => rfl
      | true =>
        have hl' : sk.length ≤ 32 := by simpa using hl
        have hc : (eqI 0 0 && (eqI (sk.length : Int) (sk.length : Int) && (eqI 0 0 && (eqS sk sk && (eqB sf sf && lenB sk))))) = true := by
          simp [eqI_s, eqS_s, eqB_s, lenB_s]; omega
        rw [hc]
        cases (stakesU sk).1 <;> rfl
theorem ok31 (h : HooksOK P X noHooks) : ∀ args v, h31 args = some (true, v) → Pure P X 31 args v := by
  intro args v hv
  unfold h31 at hv
  split at hv
  case h_2 => cases hv
  rename_i n1 n2 n3 n4 n5 n6 n7 n8 sk sf
  simp only [Option.some.injEq, Prod.mk.injEq, Bool.and_eq_true, eqI_s, true_and] at hv
  subst hv
  exact okk31 h _ _ _ _ _ _ _ _ _ _ 
noncomputable def K7 : Hooks := K6.call1 31 h31
theorem K7_ok (h : HooksOK P X noHooks) : HooksOK P X K7 := (K6_ok h).call1 (ok31 h)
/-! turns -/
theorem grB_at {e : Int} {sk : List Stk} (h : grB e sk = true) : (0 ≤ e ∧ e ≤ 1048576) ∧ ∀ i, i < sk.length → 0 ≤ (sa sk i).2.2.1 ∧ (sa sk i).2.2.1 ≤ 1048576 := by
  unfold grB at h
  simp only [Bool.and_eq_true, gramB_s, List.all_eq_true] at h
  refine ⟨h.1, fun i hi => ?_⟩
  have := h.2 sk[i] (List.getElem_mem hi)
  unfold sa
  rwa [List.getD_eq_getElem?_getD, List.getElem?_eq_getElem hi]
def S105 (no : Int) (rate : Int) (ts : List Test) (fl : Bool) (n1 : Int) (n2 : Int) (n3 : Int) (n4 : Int) (n5 : Int) (n6 : Int) (n7 : Int) (n8 : Int) (sk : List Stk) (sf : Bool) (lo : Int) (hi : Int) (len : Int) (i : Int) : St :=
  ⟨[(4, .p 1 0), (6, .p 2 0), (7, .i .i64 0), (8, .p 3 0), (19, .ls T71 sk sf), (20, .i .i64 len), (21, .i .i64 i)], [.c 24 [.i .i64 no, .i .i64 rate, .ls T26 ts fl], .c 47 [.i .i64 n1, .i .i64 n2, .i .i64 n3, .i .i64 n4, .i .i64 n5, .i .i64 n6, .i .i64 n7, .i .i64 n8, .ls T71 sk sf], .c 103 [.i .i64 0, .i .i64 0], .c 103 [.i .i64 lo, .i .i64 hi]], []⟩
theorem r105 (no rate : Int) (ts : List Test) (fl : Bool) (n1 n2 n3 n4 n5 n6 n7 n8 : Int) (sk : List Stk) (sf : Bool) (lo hi len i : Int) : evRound P K7 105 3 (S105 no rate ts fl n1 n2 n3 n4 n5 n6 n7 n8 sk sf lo hi len i) =
    bif decide (i < len) then
      bif decide (0 ≤ i) && decide (i < (sk.length : Int)) then
        some (.n, S105 no rate ts fl n1 n2 n3 n4 n5 n6 n7 n8 sk sf lo (if w64 ((sa sk (Int.toNat i)).2.2.1 - n7) < hi then w64 ((sa sk (Int.toNat i)).2.2.1 - n7) else hi) len (w64 (i + 1)))
      else none
    else some (.exit 0, S105 no rate ts fl n1 n2 n3 n4 n5 n6 n7 n8 sk sf lo hi len i) := by kernel_rfl
noncomputable def l105 : St → Option (Tr (Ex × St))
  | ⟨[(4, .p 1 0), (6, .p 2 0), (7, .i .i64 0), (8, .p 3 0), (19, .ls [.i .i64, .i .i64, .i .i64, .i .i64, .i .i64] sk sf), (20, .i .i64 len), (21, .i .i64 i)], [.c 24 [.i .i64 no, .i .i64 rate, .ls [.i .i64, .i .i64, .i .i64, .i .i64] ts fl], .c 47 [.i .i64 n1, .i .i64 n2, .i .i64 n3, .i .i64 n4, .i .i64 n5, .i .i64 n6, .i .i64 n7, .i .i64 n8, .ls [.i .i64, .i .i64, .i .i64, .i .i64, .i .i64] sk' sf'], .c 103 [.i .i64 0, .i .i64 0], .c 103 [.i .i64 lo, .i .i64 hi]], []⟩ =>
    some (.test (eqI len (sk.length) && (eqI i (0) && (eqS sk' sk && (eqB sf' sf && ((grB n7 sk) && (lenB sk))))))
    (.ok (.exit 0, ((fun i s => S105 no rate ts fl n1 n2 n3 n4 n5 n6 n7 n8 sk sf lo s sk.length i : Nat → Int → St)) (upL (σ := Int) (fun _ _ => false) (fun i s => min s ((sa sk i).2.2.1 - n7)) (sk.length) (0) (hi)).2.1 (upL (σ := Int) (fun _ _ => false) (fun i s => min s ((sa sk i).2.2.1 - n7)) (sk.length) (0) (hi)).2.2))
    .fail)
  | _ => none
theorem lrun105 (h : HooksOK P X noHooks) (no : Int) (rate : Int) (ts : List Test) (fl : Bool) (n1 : Int) (n2 : Int) (n3 : Int) (n4 : Int) (n5 : Int) (n6 : Int) (n7 : Int) (n8 : Int) (sk : List Stk) (sf : Bool) (lo : Int) (hi : Int) (p0 : (grB n7 sk) = true) (p1 : (lenB sk) = true) (e : Ex) (st' : St)
    (ht : (Tr.get (.ok (.exit 0, ((fun i s => S105 no rate ts fl n1 n2 n3 n4 n5 n6 n7 n8 sk sf lo s sk.length i : Nat → Int → St)) (upL (σ := Int) (fun _ _ => false) (fun i s => min s ((sa sk i).2.2.1 - n7)) (sk.length) (0) (hi)).2.1 (upL (σ := Int) (fun _ _ => false) (fun i s => min s ((sa sk i).2.2.1 - n7)) (sk.length) (0) (hi)).2.2))) = some (e, st')) : LoopV P X 105 3 (S105 no rate ts fl n1 n2 n3 n4 n5 n6 n7 n8 sk sf lo hi (sk.length) (0)) e st' := by
  refine LoopV.run (K7_ok h) (σ := Int) (n := sk.length) (stop := fun _ _ => false) (step := fun i s => min s ((sa sk i).2.2.1 - n7)) (e1 := .ret) (e2 := .exit 0) (st := (fun i s => S105 no rate ts fl n1 n2 n3 n4 n5 n6 n7 n8 sk sf lo s sk.length i : Nat → Int → St)) (s1 := (fun i s => S105 no rate ts fl n1 n2 n3 n4 n5 n6 n7 n8 sk sf lo s sk.length i : Nat → Int → St)) (s2 := (fun i s => S105 no rate ts fl n1 n2 n3 n4 n5 n6 n7 n8 sk sf lo s sk.length i : Nat → Int → St)) (fun _ _ => True)
    (fun j s hinv hi hs => ?_) (by simp) (fun j s hinv hi hs => ?_) (fun s hinv => ?_) (by simp) (sk.length) (0) (hi) (by omega) ?_ e st' (by rw [upF]; exact ht)

  · cases hs
  · have hlen := lenB_s.1 p1
    obtain ⟨g1, g2⟩ := grB_at p0
    have g3 := g2 j hi
    refine ⟨?_, trivial⟩
    rw [r105, cond_pos (by simpa using hi), cond_pos (inB (by omega) (by omega)), Int.toNat_natCast, natS (by omega), w64S (n := (sa sk j).2.2.1 - n7) (by omega) (by omega)]
    have e : (if (sa sk j).2.2.1 - n7 < s then (sa sk j).2.2.1 - n7 else s) = min s ((sa sk j).2.2.1 - n7) := by split <;> omega
    rw [e]
  · rw [r105, cond_neg (by simp)]
  · trivial
theorem lok105 (h : HooksOK P X noHooks) : ∀ st t e st', l105 st = some t → t.get = some (e, st') → LoopV P X 105 3 st e st' := by
  intro st t e st' hl ht
  unfold l105 at hl
  split at hl
  case h_2 => cases hl
  rename_i sk sf len i no rate ts fl n1 n2 n3 n4 n5 n6 n7 n8 sk' sf' lo hi
  cases hl
  replace ht := ht
  have hc : (eqI len (sk.length) && (eqI i (0) && (eqS sk' sk && (eqB sf' sf && ((grB n7 sk) && (lenB sk)))))) = true := by
    cases hc : (eqI len (sk.length) && (eqI i (0) && (eqS sk' sk && (eqB sf' sf && ((grB n7 sk) && (lenB sk)))))) with
    | true => rfl
    | false => rw [hc] at ht; cases ht
  rw [hc] at ht
  simp only [Bool.and_eq_true, eqI_s] at hc
  obtain ⟨rfl, rfl, q_skx, q_sfx, p0, p1⟩ := hc
  obtain rfl := eqS_s.1 q_skx
  obtain rfl := eqB_s.1 q_sfx
  exact lrun105 h _ _ _ _ _ _ _ _ _ _ _ _ _ _ _ _ p0 p1 e st' ht
noncomputable def K8 : Hooks := K7.loop1 105 3 l105
theorem K8_ok (h : HooksOK P X noHooks) : HooksOK P X K8 := (K7_ok h).loop1 (lok105 h)
end Go.Mini.Co
end
section
set_option linter.unusedVariables false
set_option linter.unusedSimpArgs false
set_option maxRecDepth 100000
namespace Go.Mini.Co
open Go Go.Mini
variable {X : Fz → Prop}
theorem e105 (no rate : Int) (ts : List Test) (fl : Bool) (n1 n2 n3 n4 n5 n6 n7 n8 : Int) (sk : List Stk) (sf : Bool) (kn : Int) : evP P K8 105 [.agg [.i .i64 no, .i .i64 rate, .ls T26 ts fl], .agg [.i .i64 n1, .i .i64 n2, .i .i64 n3, .i .i64 n4, .i .i64 n5, .i .i64 n6, .i .i64 n7, .i .i64 n8, .ls T71 sk sf], .i .i64 kn] =
    bif okScale rate ts && (dayB n8 && dayB n3) then
      bif eqI (sk.length : Int) (sk.length : Int) && (eqI 0 0 && (eqS sk sk && (eqB sf sf && (grB n7 sk && lenB sk)))) then
        bif decide (turnsLo rate ts ⟨n1, n2, n3, n4, n5, n6, n7, n8, sk⟩ kn > turnsH rate ts ⟨n1, n2, n3, n4, n5, n6, n7, n8, sk⟩ kn) then some (.tup [.agg [.i .i64 0, .i .i64 0], .i .i64 13]) else some (.tup [.agg [.i .i64 (turnsLo rate ts ⟨n1, n2, n3, n4, n5, n6, n7, n8, sk⟩ kn), .i .i64 (turnsH rate ts ⟨n1, n2, n3, n4, n5, n6, n7, n8, sk⟩ kn)], .i .i64 0])
      else none
    else none := by kernel_rfl
noncomputable def h105 : List V → Option (Bool × V)
  | [.agg [.i .i64 no, .i .i64 rate, .ls [.i .i64, .i .i64, .i .i64, .i .i64] ts fl], .agg [.i .i64 n1, .i .i64 n2, .i .i64 n3, .i .i64 n4, .i .i64 n5, .i .i64 n6, .i .i64 n7, .i .i64 n8, .ls [.i .i64, .i .i64, .i .i64, .i .i64, .i .i64] sk sf], .i .i64 kn] => some (((okScale rate ts) && ((dayB n8) && ((dayB n3) && ((grB n7 sk) && (lenB sk))))), .tup [.agg [.i .i64 (spanIf (turnsE rate ts ⟨n1, n2, n3, n4, n5, n6, n7, n8, sk⟩ kn) (turnsLo rate ts ⟨n1, n2, n3, n4, n5, n6, n7, n8, sk⟩ kn)), .i .i64 (spanIf (turnsE rate ts ⟨n1, n2, n3, n4, n5, n6, n7, n8, sk⟩ kn) (turnsH rate ts ⟨n1, n2, n3, n4, n5, n6, n7, n8, sk⟩ kn))], .i .i64 (turnsE rate ts ⟨n1, n2, n3, n4, n5, n6, n7, n8, sk⟩ kn)])
  | _ => none
theorem okk105 (h : HooksOK P X noHooks) (no : Int) (rate : Int) (ts : List Test) (fl : Bool) (n1 : Int) (n2 : Int) (n3 : Int) (n4 : Int) (n5 : Int) (n6 : Int) (n7 : Int) (n8 : Int) (sk : List Stk) (sf : Bool) (kn : Int) (p0 : (okScale rate ts) = true) (p1 : (dayB n8) = true) (p2 : (dayB n3) = true) (p3 : (grB n7 sk) = true) (p4 : (lenB sk) = true) : Pure P X 105 [.agg [.i .i64 no, .i .i64 rate, .ls T26 ts fl], .agg [.i .i64 n1, .i .i64 n2, .i .i64 n3, .i .i64 n4, .i .i64 n5, .i .i64 n6, .i .i64 n7, .i .i64 n8, .ls T71 sk sf], .i .i64 kn] (.tup [.agg [.i .i64 (spanIf (turnsE rate ts ⟨n1, n2, n3, n4, n5, n6, n7, n8, sk⟩ kn) (turnsLo rate ts ⟨n1, n2, n3, n4, n5, n6, n7, n8, sk⟩ kn)), .i .i64 (spanIf (turnsE rate ts ⟨n1, n2, n3, n4, n5, n6, n7, n8, sk⟩ kn) (turnsH rate ts ⟨n1, n2, n3, n4, n5, n6, n7, n8, sk⟩ kn))], .i .i64 (turnsE rate ts ⟨n1, n2, n3, n4, n5, n6, n7, n8, sk⟩ kn)]) := by

  refine evP_sound (K8_ok h) ((e105 no rate ts fl n1 n2 n3 n4 n5 n6 n7 n8 sk sf kn).trans ?_)
  rw [cond_pos (by rw [p0, p1, p2]; rfl), cond_pos (by simp [eqI_s, eqS_s, eqB_s, p3, p4])]
  unfold turnsE spanIf
  cases decide (turnsLo rate ts ⟨n1, n2, n3, n4, n5, n6, n7, n8, sk⟩ kn > turnsH rate ts ⟨n1, n2, n3, n4, n5, n6, n7, n8, sk⟩ kn) <;> rfl
theorem ok105 (h : HooksOK P X noHooks) : ∀ args v, h105 args = some (true, v) → Pure P X 105 args v := by
  intro args v hv
  unfold h105 at hv
  split at hv
  case h_2 => cases hv
  rename_i no rate ts fl n1 n2 n3 n4 n5 n6 n7 n8 sk sf kn
  simp only [Option.some.injEq, Prod.mk.injEq, Bool.and_eq_true, eqI_s, true_and] at hv
  obtain ⟨⟨p0, p1, p2, p3, p4⟩, rfl⟩ := hv
  exact okk105 h _ _ _ _ _ _ _ _ _ _ _ _ _ _ _ p0 p1 p2 p3 p4
noncomputable def K9 : Hooks := K8.call1 105 h105
theorem K9_ok (h : HooksOK P X noHooks) : HooksOK P X K9 := (K8_ok h).call1 (ok105 h)
theorem e133 (no rate : Int) (ts : List Test) (fl : Bool) (n1 n2 n3 n4 n5 n6 n7 n8 : Int) (sk : List Stk) (sf : Bool) (kn : Int) : evP P K9 133 [.agg [.i .i64 no, .i .i64 rate, .ls T26 ts fl], .agg [.i .i64 n1, .i .i64 n2, .i .i64 n3, .i .i64 n4, .i .i64 n5, .i .i64 n6, .i .i64 n7, .i .i64 n8, .ls T71 sk sf], .i .i64 kn] =
    bif scaleE no rate ts != 0 then some (.i .i64 (scaleE no rate ts)) else
    bif errB (sheetB ⟨n1, n2, n3, n4, n5, n6, n7, n8, sk⟩) 12 != 0 then some (.i .i64 (errB (sheetB ⟨n1, n2, n3, n4, n5, n6, n7, n8, sk⟩) 12)) else
    bif no != n5 then some (.i .i64 1) else bif !dayB kn then some (.i .i64 1) else some (.i .i64 0) := by kernel_rfl
noncomputable def h133 : List V → Option (Bool × V)
  | [.agg [.i .i64 no, .i .i64 rate, .ls [.i .i64, .i .i64, .i .i64, .i .i64] ts fl], .agg [.i .i64 n1, .i .i64 n2, .i .i64 n3, .i .i64 n4, .i .i64 n5, .i .i64 n6, .i .i64 n7, .i .i64 n8, .ls [.i .i64, .i .i64, .i .i64, .i .i64, .i .i64] sk sf], .i .i64 kn] => some (true, .i .i64 (sheetOfE no rate ts ⟨n1, n2, n3, n4, n5, n6, n7, n8, sk⟩ kn))
  | _ => none
theorem okk133 (h : HooksOK P X noHooks) (no : Int) (rate : Int) (ts : List Test) (fl : Bool) (n1 : Int) (n2 : Int) (n3 : Int) (n4 : Int) (n5 : Int) (n6 : Int) (n7 : Int) (n8 : Int) (sk : List Stk) (sf : Bool) (kn : Int)  : Pure P X 133 [.agg [.i .i64 no, .i .i64 rate, .ls T26 ts fl], .agg [.i .i64 n1, .i .i64 n2, .i .i64 n3, .i .i64 n4, .i .i64 n5, .i .i64 n6, .i .i64 n7, .i .i64 n8, .ls T71 sk sf], .i .i64 kn] (.i .i64 (sheetOfE no rate ts ⟨n1, n2, n3, n4, n5, n6, n7, n8, sk⟩ kn)) := by

  refine evP_sound (K9_ok h) ((e133 no rate ts fl n1 n2 n3 n4 n5 n6 n7 n8 sk sf kn).trans ?_)
  unfold sheetOfE
  have e : (no != n5) = !eqI no n5 := by unfold eqI; by_cases h0 : no = n5 <;> simp [h0]
  rw [neq0, e]
  cases eqI (scaleE no rate ts) 0 <;> cases sheetB ⟨n1, n2, n3, n4, n5, n6, n7, n8, sk⟩ <;> cases eqI no n5 <;> cases dayB kn <;> rfl
theorem ok133 (h : HooksOK P X noHooks) : ∀ args v, h133 args = some (true, v) → Pure P X 133 args v := by
  intro args v hv
  unfold h133 at hv
  split at hv
  case h_2 => cases hv
  rename_i no rate ts fl n1 n2 n3 n4 n5 n6 n7 n8 sk sf kn
  simp only [Option.some.injEq, Prod.mk.injEq, Bool.and_eq_true, eqI_s, true_and] at hv
  subst hv
  exact okk133 h _ _ _ _ _ _ _ _ _ _ _ _ _ _ _ 
noncomputable def K10 : Hooks := K9.call1 133 h133
theorem K10_ok (h : HooksOK P X noHooks) : HooksOK P X K10 := (K9_ok h).call1 (ok133 h)
theorem e104 (no rate : Int) (ts : List Test) (fl : Bool) (n1 n2 n3 n4 n5 n6 n7 n8 : Int) (sk : List Stk) (sf : Bool) (a kn : Int) : evP P K10 104 [.agg [.i .i64 no, .i .i64 rate, .ls T26 ts fl], .agg [.i .i64 n1, .i .i64 n2, .i .i64 n3, .i .i64 n4, .i .i64 n5, .i .i64 n6, .i .i64 n7, .i .i64 n8, .ls T71 sk sf], .i .i64 a, .i .i64 kn] =
    bif sheetOfE no rate ts ⟨n1, n2, n3, n4, n5, n6, n7, n8, sk⟩ kn != 0 then some (.i .i64 (sheetOfE no rate ts ⟨n1, n2, n3, n4, n5, n6, n7, n8, sk⟩ kn)) else
    bif decide (a < 0) then some (.i .i64 1) else bif decide (a ≥ (sk.length : Int)) then some (.i .i64 1) else some (.i .i64 0) := by kernel_rfl
noncomputable def h104 : List V → Option (Bool × V)
  | [.agg [.i .i64 no, .i .i64 rate, .ls [.i .i64, .i .i64, .i .i64, .i .i64] ts fl], .agg [.i .i64 n1, .i .i64 n2, .i .i64 n3, .i .i64 n4, .i .i64 n5, .i .i64 n6, .i .i64 n7, .i .i64 n8, .ls [.i .i64, .i .i64, .i .i64, .i .i64, .i .i64] sk sf], .i .i64 a, .i .i64 kn] => some (true, .i .i64 (stakeOfE no rate ts ⟨n1, n2, n3, n4, n5, n6, n7, n8, sk⟩ a kn))
  | _ => none
theorem okk104 (h : HooksOK P X noHooks) (no : Int) (rate : Int) (ts : List Test) (fl : Bool) (n1 : Int) (n2 : Int) (n3 : Int) (n4 : Int) (n5 : Int) (n6 : Int) (n7 : Int) (n8 : Int) (sk : List Stk) (sf : Bool) (a : Int) (kn : Int)  : Pure P X 104 [.agg [.i .i64 no, .i .i64 rate, .ls T26 ts fl], .agg [.i .i64 n1, .i .i64 n2, .i .i64 n3, .i .i64 n4, .i .i64 n5, .i .i64 n6, .i .i64 n7, .i .i64 n8, .ls T71 sk sf], .i .i64 a, .i .i64 kn] (.i .i64 (stakeOfE no rate ts ⟨n1, n2, n3, n4, n5, n6, n7, n8, sk⟩ a kn)) := by

  refine evP_sound (K10_ok h) ((e104 no rate ts fl n1 n2 n3 n4 n5 n6 n7 n8 sk sf a kn).trans ?_)
  unfold stakeOfE
  rw [neq0]
  cases eqI (sheetOfE no rate ts ⟨n1, n2, n3, n4, n5, n6, n7, n8, sk⟩ kn) 0 <;> cases decide (a < 0) <;> cases hc : decide (a ≥ (sk.length : Int)) <;> simp_all
theorem ok104 (h : HooksOK P X noHooks) : ∀ args v, h104 args = some (true, v) → Pure P X 104 args v := by
  intro args v hv
  unfold h104 at hv
  split at hv
  case h_2 => cases hv
  rename_i no rate ts fl n1 n2 n3 n4 n5 n6 n7 n8 sk sf a kn
  simp only [Option.some.injEq, Prod.mk.injEq, Bool.and_eq_true, eqI_s, true_and] at hv
  subst hv
  exact okk104 h _ _ _ _ _ _ _ _ _ _ _ _ _ _ _ _ 
noncomputable def K11 : Hooks := K10.call1 104 h104
theorem K11_ok (h : HooksOK P X noHooks) : HooksOK P X K11 := (K10_ok h).call1 (ok104 h)
theorem sheetB_s {s : Sh} (h : sheetB s = true) : dayB s.day = true ∧ dayB s.eday = true ∧ grB s.empty s.st = true ∧ (1 ≤ s.mouth ∧ s.mouth ≤ 1000) ∧ (1 ≤ s.st.length ∧ s.st.length ≤ 32) ∧ ∀ i, i < s.st.length → stakeB (sa s.st i) = true := by
  unfold sheetB at h
  simp only [every3, Bool.and_eq_true, decide_eq_true_eq, Bool.not_eq_true'] at h
  obtain ⟨_, ⟨d1, _, d3⟩, g, m1, m2, l1, l2, hst⟩ := h
  have hall : ∀ i, i < s.st.length → stakeB (sa s.st i) = true := fun i hi => by
    have := (upU_none (stop := fun i => !stakeB (sa s.st i)) _ _).1 hst i (by omega) (by omega)
    simpa using this
  refine ⟨d1, d3, ?_, ⟨m1, m2⟩, ⟨l1, l2⟩, hall⟩
  unfold grB
  rw [g, Bool.true_and, List.all_eq_true]
  intro x hx
  obtain ⟨i, hi, rfl⟩ := List.getElem_of_mem hx
  have h1 := hall i hi
  unfold stakeB at h1
  simp only [every2, Bool.and_eq_true] at h1
  have h2 := h1.2.2.1
  unfold sa at h2
  rwa [List.getD_eq_getElem?_getD, List.getElem?_eq_getElem hi] at h2
theorem stakeB_s {k : Stk} (h : stakeB k = true) : (0 ≤ k.1 ∧ k.1 ≤ 20000) ∧ lenOk k.2.2.2.1 = true ∧ gramB k.2.2.1 = true ∧ gramB k.2.2.2.2.1 = true := by
  unfold stakeB at h
  simp only [every2, every3, Bool.and_eq_true] at h
  exact ⟨lenOk_s.1 h.1.1, h.1.2.2, h.2.2.1, h.2.2.2⟩
theorem sheetOfE_0 {no rate : Int} {ts : List Test} {sh : Sh} {kn : Int} (h : sheetOfE no rate ts sh kn = 0) : scaleE no rate ts = 0 ∧ sheetB sh = true ∧ no = sh.scale ∧ dayB kn = true := by
  unfold sheetOfE at h
  cases h1 : eqI (scaleE no rate ts) 0 with
  | false => rw [h1] at h; have h : scaleE no rate ts = 0 := h; rw [h] at h1; cases h1
  | true =>
    rw [h1] at h
    cases h2 : sheetB sh with
    | false => rw [h2] at h; cases h
    | true =>
      rw [h2] at h
      cases h3 : eqI no sh.scale with
      | false => rw [h3] at h; cases h
      | true =>
        rw [h3] at h
        cases h4 : dayB kn with
        | false => rw [h4] at h; cases h
        | true => exact ⟨eqI_s.1 h1, rfl, eqI_s.1 h3, rfl⟩
theorem stakeOfE_0 {no rate : Int} {ts : List Test} {sh : Sh} {a kn : Int} (h : stakeOfE no rate ts sh a kn = 0) : sheetOfE no rate ts sh kn = 0 ∧ 0 ≤ a ∧ a < sh.st.length := by
  unfold stakeOfE at h
  cases h1 : eqI (sheetOfE no rate ts sh kn) 0 with
  | false => rw [h1] at h; have h : sheetOfE no rate ts sh kn = 0 := h; rw [h] at h1; cases h1
  | true =>
    rw [h1] at h
    cases h2 : (decide (a < 0) || decide (a ≥ (sh.st.length : Int))) with
    | true => rw [h2] at h; cases h
    | false =>
      simp only [Bool.or_eq_false_iff, decide_eq_false_iff_not] at h2
      exact ⟨eqI_s.1 h1, by omega, by omega⟩
theorem lookE_0 {no rate : Int} {ts : List Test} {sh : Sh} {a kn : Int} (h : lookE no rate ts sh a kn = 0) : stakeOfE no rate ts sh a kn = 0 ∧ turnsE rate ts sh kn = 0 := by
  unfold lookE at h
  cases h1 : eqI (stakeOfE no rate ts sh a kn) 0 with
  | false => rw [h1] at h; have h : stakeOfE no rate ts sh a kn = 0 := h; rw [h] at h1; cases h1
  | true => rw [h1] at h; exact ⟨eqI_s.1 h1, h⟩
theorem e81 (no rate : Int) (ts : List Test) (fl : Bool) (n1 n2 n3 n4 n5 n6 n7 n8 : Int) (sk : List Stk) (sf : Bool) (a kn : Int) : evP P K11 81 [.agg [.i .i64 no, .i .i64 rate, .ls T26 ts fl], .agg [.i .i64 n1, .i .i64 n2, .i .i64 n3, .i .i64 n4, .i .i64 n5, .i .i64 n6, .i .i64 n7, .i .i64 n8, .ls T71 sk sf], .i .i64 a, .i .i64 kn] =
    bif stakeOfE no rate ts ⟨n1, n2, n3, n4, n5, n6, n7, n8, sk⟩ a kn != 0 then some (.tup [.agg [.i .i64 0, .i .i64 0], .i .i64 (stakeOfE no rate ts ⟨n1, n2, n3, n4, n5, n6, n7, n8, sk⟩ a kn)]) else
    bif okScale rate ts && (dayB n8 && (dayB n3 && (grB n7 sk && lenB sk))) then some (.tup [.agg [.i .i64 (spanIf (turnsE rate ts ⟨n1, n2, n3, n4, n5, n6, n7, n8, sk⟩ kn) (turnsLo rate ts ⟨n1, n2, n3, n4, n5, n6, n7, n8, sk⟩ kn)), .i .i64 (spanIf (turnsE rate ts ⟨n1, n2, n3, n4, n5, n6, n7, n8, sk⟩ kn) (turnsH rate ts ⟨n1, n2, n3, n4, n5, n6, n7, n8, sk⟩ kn))], .i .i64 (turnsE rate ts ⟨n1, n2, n3, n4, n5, n6, n7, n8, sk⟩ kn)]) else none := by kernel_rfl
noncomputable def h81 : List V → Option (Bool × V)
  | [.agg [.i .i64 no, .i .i64 rate, .ls [.i .i64, .i .i64, .i .i64, .i .i64] ts fl], .agg [.i .i64 n1, .i .i64 n2, .i .i64 n3, .i .i64 n4, .i .i64 n5, .i .i64 n6, .i .i64 n7, .i .i64 n8, .ls [.i .i64, .i .i64, .i .i64, .i .i64, .i .i64] sk sf], .i .i64 a, .i .i64 kn] => some (true, .tup [.agg [.i .i64 (spanIf (lookE no rate ts ⟨n1, n2, n3, n4, n5, n6, n7, n8, sk⟩ a kn) (turnsLo rate ts ⟨n1, n2, n3, n4, n5, n6, n7, n8, sk⟩ kn)), .i .i64 (spanIf (lookE no rate ts ⟨n1, n2, n3, n4, n5, n6, n7, n8, sk⟩ a kn) (turnsH rate ts ⟨n1, n2, n3, n4, n5, n6, n7, n8, sk⟩ kn))], .i .i64 (lookE no rate ts ⟨n1, n2, n3, n4, n5, n6, n7, n8, sk⟩ a kn)])
  | _ => none
theorem okk81 (h : HooksOK P X noHooks) (no : Int) (rate : Int) (ts : List Test) (fl : Bool) (n1 : Int) (n2 : Int) (n3 : Int) (n4 : Int) (n5 : Int) (n6 : Int) (n7 : Int) (n8 : Int) (sk : List Stk) (sf : Bool) (a : Int) (kn : Int)  : Pure P X 81 [.agg [.i .i64 no, .i .i64 rate, .ls T26 ts fl], .agg [.i .i64 n1, .i .i64 n2, .i .i64 n3, .i .i64 n4, .i .i64 n5, .i .i64 n6, .i .i64 n7, .i .i64 n8, .ls T71 sk sf], .i .i64 a, .i .i64 kn] (.tup [.agg [.i .i64 (spanIf (lookE no rate ts ⟨n1, n2, n3, n4, n5, n6, n7, n8, sk⟩ a kn) (turnsLo rate ts ⟨n1, n2, n3, n4, n5, n6, n7, n8, sk⟩ kn)), .i .i64 (spanIf (lookE no rate ts ⟨n1, n2, n3, n4, n5, n6, n7, n8, sk⟩ a kn) (turnsH rate ts ⟨n1, n2, n3, n4, n5, n6, n7, n8, sk⟩ kn))], .i .i64 (lookE no rate ts ⟨n1, n2, n3, n4, n5, n6, n7, n8, sk⟩ a kn)]) := by

  refine evP_sound (K11_ok h) ((e81 no rate ts fl n1 n2 n3 n4 n5 n6 n7 n8 sk sf a kn).trans ?_)
  rw [neq0]
  cases he : eqI (stakeOfE no rate ts ⟨n1, n2, n3, n4, n5, n6, n7, n8, sk⟩ a kn) 0 with
  | false =>
    have e : lookE no rate ts ⟨n1, n2, n3, n4, n5, n6, n7, n8, sk⟩ a kn = stakeOfE no rate ts ⟨n1, n2, n3, n4, n5, n6, n7, n8, sk⟩ a kn := by unfold lookE; rw [he]; rfl
    unfold spanIf
    rw [e, he]; rfl
  | true =>
    have e : lookE no rate ts ⟨n1, n2, n3, n4, n5, n6, n7, n8, sk⟩ a kn = turnsE rate ts ⟨n1, n2, n3, n4, n5, n6, n7, n8, sk⟩ kn := by unfold lookE; rw [he]; rfl
    obtain ⟨h1, _, _⟩ := stakeOfE_0 (eqI_s.1 he)
    obtain ⟨h2, h3, _, _⟩ := sheetOfE_0 h1
    obtain ⟨d1, d2, g, _, ⟨_, l2⟩, _⟩ := sheetB_s h3
    have d1 : dayB n3 = true := d1
    have d2 : dayB n8 = true := d2
    have g : grB n7 sk = true := g
    have l2 : sk.length ≤ 32 := l2
    rw [e, cond_neg (by rfl), cond_pos (by rw [wellB_scale (scaleE_0 h2).1, d1, d2, g, lenB_s.2 (show sk.length ≤ 1000000000 by omega)]; rfl)]
theorem ok81 (h : HooksOK P X noHooks) : ∀ args v, h81 args = some (true, v) → Pure P X 81 args v := by
  intro args v hv
  unfold h81 at hv
  split at hv
  case h_2 => cases hv
  rename_i no rate ts fl n1 n2 n3 n4 n5 n6 n7 n8 sk sf a kn
  simp only [Option.some.injEq, Prod.mk.injEq, Bool.and_eq_true, eqI_s, true_and] at hv
  subst hv
  exact okk81 h _ _ _ _ _ _ _ _ _ _ _ _ _ _ _ _ 
noncomputable def K12 : Hooks := K11.call1 81 h81
theorem K12_ok (h : HooksOK P X noHooks) : HooksOK P X K12 := (K11_ok h).call1 (ok81 h)
/-! core, snow, up -/
theorem weighB_s {m e : Int} {k : Stk} {lo hi : Int} (h : weighB m e k lo hi = true) : (1 ≤ m ∧ m ≤ 1000) ∧ (0 ≤ e ∧ e ≤ 1048576) ∧ (0 ≤ k.2.2.2.1 ∧ k.2.2.2.1 ≤ 20000) ∧ (0 ≤ k.2.2.1 ∧ k.2.2.1 ≤ 1048576) ∧ (0 ≤ k.2.2.2.2.1 ∧ k.2.2.2.2.1 ≤ 1048576) ∧ (-10000000 ≤ lo ∧ lo ≤ 10000000) ∧ (-10000000 ≤ hi ∧ hi ≤ 10000000) := by
  simpa only [weighB, mouthB, gramB, lenOk, bnd7, Bool.and_eq_true, decide_eq_true_eq] using h
theorem e82 (n1 n2 n3 n4 n5 n6 n7 n8 : Int) (sk : List Stk) (sf : Bool) (k1 k2 k3 k4 k5 lo hi : Int) : evP P K12 82 [.agg [.i .i64 n1, .i .i64 n2, .i .i64 n3, .i .i64 n4, .i .i64 n5, .i .i64 n6, .i .i64 n7, .i .i64 n8, .ls T71 sk sf], .agg [.i .i64 k1, .i .i64 k2, .i .i64 k3, .i .i64 k4, .i .i64 k5], .agg [.i .i64 lo, .i .i64 hi]] =
    some (.agg [.i .i64 (if w64 (w64 (w64 (k3 - n7) - hi) - k5) > 0 then w64 (w64 (w64 (k3 - n7) - hi) - k5) else 0), .i .i64 (w64 (w64 (k3 - n7) - lo))]) := by kernel_rfl
noncomputable def h82 : List V → Option (Bool × V)
  | [.agg [.i .i64 n1, .i .i64 n2, .i .i64 n3, .i .i64 n4, .i .i64 n5, .i .i64 n6, .i .i64 n7, .i .i64 n8, .ls [.i .i64, .i .i64, .i .i64, .i .i64, .i .i64] sk sf], .agg [.i .i64 k1, .i .i64 k2, .i .i64 k3, .i .i64 k4, .i .i64 k5], .agg [.i .i64 lo, .i .i64 hi]] => some ((weighB n6 n7 (k1, k2, k3, k4, k5, ()) lo hi), .agg [.i .i64 (coreLo n7 (k1, k2, k3, k4, k5, ()) hi), .i .i64 (coreHi n7 (k1, k2, k3, k4, k5, ()) lo)])
  | _ => none
theorem okk82 (h : HooksOK P X noHooks) (n1 : Int) (n2 : Int) (n3 : Int) (n4 : Int) (n5 : Int) (n6 : Int) (n7 : Int) (n8 : Int) (sk : List Stk) (sf : Bool) (k1 : Int) (k2 : Int) (k3 : Int) (k4 : Int) (k5 : Int) (lo : Int) (hi : Int) (p0 : (weighB n6 n7 (k1, k2, k3, k4, k5, ()) lo hi) = true) : Pure P X 82 [.agg [.i .i64 n1, .i .i64 n2, .i .i64 n3, .i .i64 n4, .i .i64 n5, .i .i64 n6, .i .i64 n7, .i .i64 n8, .ls T71 sk sf], .agg [.i .i64 k1, .i .i64 k2, .i .i64 k3, .i .i64 k4, .i .i64 k5], .agg [.i .i64 lo, .i .i64 hi]] (.agg [.i .i64 (coreLo n7 (k1, k2, k3, k4, k5, ()) hi), .i .i64 (coreHi n7 (k1, k2, k3, k4, k5, ()) lo)]) := by

  obtain ⟨_, _, _, _, _, _, _⟩ := weighB_s p0
  simp only at *
  refine evP_sound (K12_ok h) ((e82 n1 n2 n3 n4 n5 n6 n7 n8 sk sf k1 k2 k3 k4 k5 lo hi).trans ?_)
  rw [w64S (n := k3 - n7) (by omega) (by omega), w64S (n := k3 - n7 - hi) (by omega) (by omega), w64S (n := k3 - n7 - hi - k5) (by omega) (by omega), w64S (n := k3 - n7 - lo) (by omega) (by omega)]
  have e : (if k3 - n7 - hi - k5 > 0 then k3 - n7 - hi - k5 else 0) = coreLo n7 (k1, k2, k3, k4, k5, ()) hi := by unfold coreLo; simp only; split <;> omega
  rw [e]; rfl
theorem ok82 (h : HooksOK P X noHooks) : ∀ args v, h82 args = some (true, v) → Pure P X 82 args v := by
  intro args v hv
  unfold h82 at hv
  split at hv
  case h_2 => cases hv
  rename_i n1 n2 n3 n4 n5 n6 n7 n8 sk sf k1 k2 k3 k4 k5 lo hi
  simp only [Option.some.injEq, Prod.mk.injEq, Bool.and_eq_true, eqI_s, true_and] at hv
  obtain ⟨p0, rfl⟩ := hv
  exact okk82 h _ _ _ _ _ _ _ _ _ _ _ _ _ _ _ _ _ p0
noncomputable def K13 : Hooks := K12.call1 82 h82
theorem K13_ok (h : HooksOK P X noHooks) : HooksOK P X K13 := (K12_ok h).call1 (ok82 h)
theorem e86 (n1 n2 n3 n4 n5 n6 n7 n8 : Int) (sk : List Stk) (sf : Bool) (k1 k2 k3 k4 k5 lo hi : Int) : evP P K13 86 [.agg [.i .i64 n1, .i .i64 n2, .i .i64 n3, .i .i64 n4, .i .i64 n5, .i .i64 n6, .i .i64 n7, .i .i64 n8, .ls T71 sk sf], .agg [.i .i64 k1, .i .i64 k2, .i .i64 k3, .i .i64 k4, .i .i64 k5], .agg [.i .i64 lo, .i .i64 hi]] =
    bif weighB n6 n7 (k1, k2, k3, k4, k5, ()) lo hi then some (.tup [.i .i64 (w64 (w64 (20 * coreLo n7 (k1, k2, k3, k4, k5, ()) hi) + w64 (k4 * n6))), .i .i64 (w64 (coreHi n7 (k1, k2, k3, k4, k5, ()) lo + w64 (k4 * n6)))]) else none := by kernel_rfl
theorem lost_bnd {a m : Int} (h1 : 0 ≤ a ∧ a ≤ 20000) (h2 : 1 ≤ m ∧ m ≤ 1000) : 0 ≤ a * m ∧ a * m ≤ 20000000 :=
  ⟨Int.mul_nonneg h1.1 (by omega), Int.le_trans (Int.mul_le_mul h1.2 h2.2 (by omega) (by decide)) (by decide)⟩
noncomputable def h86 : List V → Option (Bool × V)
  | [.agg [.i .i64 n1, .i .i64 n2, .i .i64 n3, .i .i64 n4, .i .i64 n5, .i .i64 n6, .i .i64 n7, .i .i64 n8, .ls [.i .i64, .i .i64, .i .i64, .i .i64, .i .i64] sk sf], .agg [.i .i64 k1, .i .i64 k2, .i .i64 k3, .i .i64 k4, .i .i64 k5], .agg [.i .i64 lo, .i .i64 hi]] => some ((weighB n6 n7 (k1, k2, k3, k4, k5, ()) lo hi), .tup [.i .i64 (snowLo n6 n7 (k1, k2, k3, k4, k5, ()) hi), .i .i64 (snowHi n6 n7 (k1, k2, k3, k4, k5, ()) lo)])
  | _ => none
theorem okk86 (h : HooksOK P X noHooks) (n1 : Int) (n2 : Int) (n3 : Int) (n4 : Int) (n5 : Int) (n6 : Int) (n7 : Int) (n8 : Int) (sk : List Stk) (sf : Bool) (k1 : Int) (k2 : Int) (k3 : Int) (k4 : Int) (k5 : Int) (lo : Int) (hi : Int) (p0 : (weighB n6 n7 (k1, k2, k3, k4, k5, ()) lo hi) = true) : Pure P X 86 [.agg [.i .i64 n1, .i .i64 n2, .i .i64 n3, .i .i64 n4, .i .i64 n5, .i .i64 n6, .i .i64 n7, .i .i64 n8, .ls T71 sk sf], .agg [.i .i64 k1, .i .i64 k2, .i .i64 k3, .i .i64 k4, .i .i64 k5], .agg [.i .i64 lo, .i .i64 hi]] (.tup [.i .i64 (snowLo n6 n7 (k1, k2, k3, k4, k5, ()) hi), .i .i64 (snowHi n6 n7 (k1, k2, k3, k4, k5, ()) lo)]) := by

  obtain ⟨q1, q2, q3, q4, q5, q6, q7⟩ := weighB_s p0
  simp only at q1 q2 q3 q4 q5 q6 q7
  have b := lost_bnd q3 q1
  refine evP_sound (K13_ok h) ((e86 n1 n2 n3 n4 n5 n6 n7 n8 sk sf k1 k2 k3 k4 k5 lo hi).trans ?_)
  have c1 : 0 ≤ coreLo n7 (k1, k2, k3, k4, k5, ()) hi ∧ coreLo n7 (k1, k2, k3, k4, k5, ()) hi ≤ 20000000 := by unfold coreLo; simp only; omega
  have c2 : -20000000 ≤ coreHi n7 (k1, k2, k3, k4, k5, ()) lo ∧ coreHi n7 (k1, k2, k3, k4, k5, ()) lo ≤ 20000000 := by unfold coreHi; simp only; omega
  rw [cond_pos p0, w64S (n := 20 * coreLo n7 (k1, k2, k3, k4, k5, ()) hi) (by omega) (by omega), w64S (n := k4 * n6) (by omega) (by omega), w64S (n := 20 * coreLo n7 (k1, k2, k3, k4, k5, ()) hi + k4 * n6) (by omega) (by omega), w64S (n := coreHi n7 (k1, k2, k3, k4, k5, ()) lo + k4 * n6) (by omega) (by omega)]
  rfl
theorem ok86 (h : HooksOK P X noHooks) : ∀ args v, h86 args = some (true, v) → Pure P X 86 args v := by
  intro args v hv
  unfold h86 at hv
  split at hv
  case h_2 => cases hv
  rename_i n1 n2 n3 n4 n5 n6 n7 n8 sk sf k1 k2 k3 k4 k5 lo hi
  simp only [Option.some.injEq, Prod.mk.injEq, Bool.and_eq_true, eqI_s, true_and] at hv
  obtain ⟨p0, rfl⟩ := hv
  exact okk86 h _ _ _ _ _ _ _ _ _ _ _ _ _ _ _ _ _ p0
theorem tdiv_bnd (a : Int) {b : Int} (hb : 1 ≤ b) : -(if 0 ≤ a then a else -a) ≤ Int.tdiv a b ∧ Int.tdiv a b ≤ (if 0 ≤ a then a else -a) := by
  have h : (Int.tdiv a b).natAbs ≤ a.natAbs := by rw [Int.natAbs_tdiv]; exact Nat.div_le_self _ _
  split <;> omega
theorem e87 (a b : Int) : evP P K13 87 [.i .i64 a, .i .i64 b] = bif !(b == 0) then some (.i .i64 (w64 (Int.tdiv (w64 (w64 (a + b) - 1)) b))) else none := by kernel_rfl
noncomputable def h87 : List V → Option (Bool × V)
  | [.i .i64 a, .i .i64 b] => some ((upPre a b), .i .i64 (upS a b))
  | _ => none
theorem okk87 (h : HooksOK P X noHooks) (a : Int) (b : Int) (p0 : (upPre a b) = true) : Pure P X 87 [.i .i64 a, .i .i64 b] (.i .i64 (upS a b)) := by

  have q : -1000000000000000 ≤ a ∧ a ≤ 1000000000000000 ∧ 1 ≤ b ∧ b ≤ 1000000000000000 := by simpa only [upPre, Bool.and_eq_true, decide_eq_true_eq] using p0
  refine evP_sound (K13_ok h) ((e87 a b).trans ?_)
  have hb : b ≠ 0 := by omega
  rw [cond_pos (by simpa using hb), w64S (n := a + b) (by omega) (by omega), w64S (n := a + b - 1) (by omega) (by omega)]
  have hd := tdiv_bnd (a + b - 1) (b := b) q.2.2.1
  rw [w64S (n := Int.tdiv (a + b - 1) b) (by omega) (by omega)]
  rfl
theorem ok87 (h : HooksOK P X noHooks) : ∀ args v, h87 args = some (true, v) → Pure P X 87 args v := by
  intro args v hv
  unfold h87 at hv
  split at hv
  case h_2 => cases hv
  rename_i a b
  simp only [Option.some.injEq, Prod.mk.injEq, Bool.and_eq_true, eqI_s, true_and] at hv
  obtain ⟨p0, rfl⟩ := hv
  exact okk87 h _ _ p0
noncomputable def K14 : Hooks := (K13.call1 86 h86).call1 87 h87
theorem K14_ok (h : HooksOK P X noHooks) : HooksOK P X K14 := ((K13_ok h).call1 (ok86 h)).call1 (ok87 h)
end Go.Mini.Co
end
section
set_option linter.unusedVariables false
set_option linter.unusedSimpArgs false
set_option maxRecDepth 100000
namespace Go.Mini.Co
open Go Go.Mini
variable {X : Fz → Prop}
theorem eqz (n : Int) : (n == 0) = eqI n 0 := by
  unfold eqI
  by_cases h : n = 0 <;> simp [h]
theorem turnS_bnd {rate a b known : Int} {ts : List Test} (h : okScale rate ts = true) : -3000000 ≤ (turnS rate ts a b known).1 ∧ (turnS rate ts a b known).1 ≤ 3000000 ∧ -3000000 ≤ (turnS rate ts a b known).2 ∧ (turnS rate ts a b known).2 ≤ 3000000 := by
  obtain ⟨r1, _⟩ := okRate_s.1 (okScale_s.1 h).1
  have d1 := drift_bnd (on := a) (known := known) h
  have d2 := drift_bnd (on := b) (known := known) h
  have : 0 ≤ rate * absD a b := Int.mul_nonneg r1 (by unfold absD; omega)
  unfold turnS
  refine ⟨?_, ?_, ?_, ?_⟩
  · show _ ≤ max _ _; omega
  · show max _ _ ≤ _; omega
  · show _ ≤ min _ _; omega
  · show min _ _ ≤ _; omega
theorem turns_bnd {rate known : Int} {ts : List Test} {sh : Sh} (h : okScale rate ts = true) (hg : grB sh.empty sh.st = true) : bnd7 (turnsLo rate ts sh known) = true ∧ bnd7 (turnsH rate ts sh known) = true := by
  have b := turnS_bnd (a := sh.eday) (b := sh.day) (known := known) h
  obtain ⟨g1, g2⟩ := grB_at hg
  have key : -3000000 ≤ turnsH rate ts sh known ∧ turnsH rate ts sh known ≤ 3000000 := by
    unfold turnsH turnsHi
    refine upL_inv (fun s : Int => -3000000 ≤ s ∧ s ≤ 3000000) _ _ _ ⟨b.2.2.1, b.2.2.2⟩ (fun j s h1 h2 hI => ?_)
    have := g2 j (by omega)
    show _ ≤ min _ _ ∧ min _ _ ≤ _
    omega
  unfold bnd7 turnsLo
  simp only [Bool.and_eq_true, decide_eq_true_eq]
  omega
theorem weigh_at {no rate : Int} {ts : List Test} {sh : Sh} {kn : Int} (h : sheetOfE no rate ts sh kn = 0) {i : Nat} (hi : i < sh.st.length) : weighB sh.mouth sh.empty (sa sh.st i) (turnsLo rate ts sh kn) (turnsH rate ts sh kn) = true := by
  obtain ⟨h2, h3, _, _⟩ := sheetOfE_0 h
  obtain ⟨_, _, g, ⟨m1, m2⟩, _, hst⟩ := sheetB_s h3
  obtain ⟨_, s1, s2, s3⟩ := stakeB_s (hst i hi)
  obtain ⟨t1, t2⟩ := turns_bnd (known := kn) (wellB_scale (scaleE_0 h2).1) g
  obtain ⟨g1, _⟩ := grB_at g
  have m : mouthB sh.mouth = true := by simp [mouthB, m1, m2]
  unfold weighB
  rw [m, s1, s2, s3, t1, t2, gramB_s.2 g1]; rfl
theorem snow_bnd {m e : Int} {k : Stk} {lo hi : Int} (h : weighB m e k lo hi = true) : 0 ≤ snowLo m e k hi ∧ snowLo m e k hi ≤ 500000000 ∧ -20000000 ≤ snowHi m e k lo ∧ snowHi m e k lo ≤ 50000000 := by
  obtain ⟨q1, q2, q3, q4, q5, q6, q7⟩ := weighB_s h
  have b := lost_bnd q3 q1
  have c1 : 0 ≤ coreLo e k hi ∧ coreLo e k hi ≤ 20000000 := by unfold coreLo; omega
  have c2 : -20000000 ≤ coreHi e k lo ∧ coreHi e k lo ≤ 20000000 := by unfold coreHi; omega
  unfold snowLo snowHi
  omega
/-! Core, Water -/
theorem e27 (no rate : Int) (ts : List Test) (fl : Bool) (n1 n2 n3 n4 n5 n6 n7 n8 : Int) (sk : List Stk) (sf : Bool) (a kn : Int) : evP P K14 27 [.agg [.i .i64 no, .i .i64 rate, .ls T26 ts fl], .agg [.i .i64 n1, .i .i64 n2, .i .i64 n3, .i .i64 n4, .i .i64 n5, .i .i64 n6, .i .i64 n7, .i .i64 n8, .ls T71 sk sf], .i .i64 a, .i .i64 kn] =
    bif (lookE no rate ts ⟨n1, n2, n3, n4, n5, n6, n7, n8, sk⟩ a kn) != 0 then some (.tup [.agg [.i .i64 0, .i .i64 0], .i .i64 (lookE no rate ts ⟨n1, n2, n3, n4, n5, n6, n7, n8, sk⟩ a kn)]) else
    bif decide (0 ≤ a) && decide (a < (sk.length : Int)) then
      bif weighB n6 n7 (sa sk (Int.toNat a)) (spanIf (lookE no rate ts ⟨n1, n2, n3, n4, n5, n6, n7, n8, sk⟩ a kn) (turnsLo rate ts ⟨n1, n2, n3, n4, n5, n6, n7, n8, sk⟩ kn)) (spanIf (lookE no rate ts ⟨n1, n2, n3, n4, n5, n6, n7, n8, sk⟩ a kn) (turnsH rate ts ⟨n1, n2, n3, n4, n5, n6, n7, n8, sk⟩ kn)) then some (.tup [.agg [.i .i64 (coreLo n7 (sa sk (Int.toNat a)) (spanIf (lookE no rate ts ⟨n1, n2, n3, n4, n5, n6, n7, n8, sk⟩ a kn) (turnsH rate ts ⟨n1, n2, n3, n4, n5, n6, n7, n8, sk⟩ kn))), .i .i64 (coreHi n7 (sa sk (Int.toNat a)) (spanIf (lookE no rate ts ⟨n1, n2, n3, n4, n5, n6, n7, n8, sk⟩ a kn) (turnsLo rate ts ⟨n1, n2, n3, n4, n5, n6, n7, n8, sk⟩ kn)))], .i .i64 0]) else none
    else none := by kernel_rfl
noncomputable def h27 : List V → Option (Bool × V)
  | [.agg [.i .i64 no, .i .i64 rate, .ls [.i .i64, .i .i64, .i .i64, .i .i64] ts fl], .agg [.i .i64 n1, .i .i64 n2, .i .i64 n3, .i .i64 n4, .i .i64 n5, .i .i64 n6, .i .i64 n7, .i .i64 n8, .ls [.i .i64, .i .i64, .i .i64, .i .i64, .i .i64] sk sf], .i .i64 a, .i .i64 kn] => some (true, .tup [.agg [.i .i64 (spanIf (lookE no rate ts ⟨n1, n2, n3, n4, n5, n6, n7, n8, sk⟩ a kn) (coreE rate ts ⟨n1, n2, n3, n4, n5, n6, n7, n8, sk⟩ a kn).1), .i .i64 (spanIf (lookE no rate ts ⟨n1, n2, n3, n4, n5, n6, n7, n8, sk⟩ a kn) (coreE rate ts ⟨n1, n2, n3, n4, n5, n6, n7, n8, sk⟩ a kn).2)], .i .i64 (lookE no rate ts ⟨n1, n2, n3, n4, n5, n6, n7, n8, sk⟩ a kn)])
  | _ => none
theorem okk27 (h : HooksOK P X noHooks) (no : Int) (rate : Int) (ts : List Test) (fl : Bool) (n1 : Int) (n2 : Int) (n3 : Int) (n4 : Int) (n5 : Int) (n6 : Int) (n7 : Int) (n8 : Int) (sk : List Stk) (sf : Bool) (a : Int) (kn : Int)  : Pure P X 27 [.agg [.i .i64 no, .i .i64 rate, .ls T26 ts fl], .agg [.i .i64 n1, .i .i64 n2, .i .i64 n3, .i .i64 n4, .i .i64 n5, .i .i64 n6, .i .i64 n7, .i .i64 n8, .ls T71 sk sf], .i .i64 a, .i .i64 kn] (.tup [.agg [.i .i64 (spanIf (lookE no rate ts ⟨n1, n2, n3, n4, n5, n6, n7, n8, sk⟩ a kn) (coreE rate ts ⟨n1, n2, n3, n4, n5, n6, n7, n8, sk⟩ a kn).1), .i .i64 (spanIf (lookE no rate ts ⟨n1, n2, n3, n4, n5, n6, n7, n8, sk⟩ a kn) (coreE rate ts ⟨n1, n2, n3, n4, n5, n6, n7, n8, sk⟩ a kn).2)], .i .i64 (lookE no rate ts ⟨n1, n2, n3, n4, n5, n6, n7, n8, sk⟩ a kn)]) := by

  refine evP_sound (K14_ok h) ((e27 no rate ts fl n1 n2 n3 n4 n5 n6 n7 n8 sk sf a kn).trans ?_)
  rw [neq0]
  cases he : eqI (lookE no rate ts ⟨n1, n2, n3, n4, n5, n6, n7, n8, sk⟩ a kn) 0 with
  | false => unfold spanIf; rw [he]; rfl
  | true =>
    have h0 := eqI_s.1 he
    obtain ⟨h1, h2⟩ := lookE_0 h0
    obtain ⟨h3, a1, a2⟩ := stakeOfE_0 h1
    have a2 : a < (sk.length : Int) := a2
    have s1 : (spanIf (lookE no rate ts ⟨n1, n2, n3, n4, n5, n6, n7, n8, sk⟩ a kn) (turnsLo rate ts ⟨n1, n2, n3, n4, n5, n6, n7, n8, sk⟩ kn)) = (turnsLo rate ts ⟨n1, n2, n3, n4, n5, n6, n7, n8, sk⟩ kn) := by unfold spanIf; rw [he]; rfl
    have s2 : (spanIf (lookE no rate ts ⟨n1, n2, n3, n4, n5, n6, n7, n8, sk⟩ a kn) (turnsH rate ts ⟨n1, n2, n3, n4, n5, n6, n7, n8, sk⟩ kn)) = (turnsH rate ts ⟨n1, n2, n3, n4, n5, n6, n7, n8, sk⟩ kn) := by unfold spanIf; rw [he]; rfl
    have hw := weigh_at h3 (i := Int.toNat a) (show Int.toNat a < sk.length by omega)
    have hw : weighB n6 n7 (sa sk (Int.toNat a)) (turnsLo rate ts ⟨n1, n2, n3, n4, n5, n6, n7, n8, sk⟩ kn) (turnsH rate ts ⟨n1, n2, n3, n4, n5, n6, n7, n8, sk⟩ kn) = true := hw
    rw [s1, s2, cond_neg (by rfl), cond_pos (inB a1 a2), cond_pos hw]
    unfold spanIf
    rw [he, h0]; rfl
theorem ok27 (h : HooksOK P X noHooks) : ∀ args v, h27 args = some (true, v) → Pure P X 27 args v := by
  intro args v hv
  unfold h27 at hv
  split at hv
  case h_2 => cases hv
  rename_i no rate ts fl n1 n2 n3 n4 n5 n6 n7 n8 sk sf a kn
  simp only [Option.some.injEq, Prod.mk.injEq, Bool.and_eq_true, eqI_s, true_and] at hv
  subst hv
  exact okk27 h _ _ _ _ _ _ _ _ _ _ _ _ _ _ _ _ 
theorem e29 (no rate : Int) (ts : List Test) (fl : Bool) (n1 n2 n3 n4 n5 n6 n7 n8 : Int) (sk : List Stk) (sf : Bool) (a kn : Int) : evP P K14 29 [.agg [.i .i64 no, .i .i64 rate, .ls T26 ts fl], .agg [.i .i64 n1, .i .i64 n2, .i .i64 n3, .i .i64 n4, .i .i64 n5, .i .i64 n6, .i .i64 n7, .i .i64 n8, .ls T71 sk sf], .i .i64 a, .i .i64 kn] =
    bif (lookE no rate ts ⟨n1, n2, n3, n4, n5, n6, n7, n8, sk⟩ a kn) != 0 then some (.tup [.agg [.i .i64 0, .i .i64 0], .i .i64 (lookE no rate ts ⟨n1, n2, n3, n4, n5, n6, n7, n8, sk⟩ a kn)]) else
    bif decide (0 ≤ a) && decide (a < (sk.length : Int)) then
      bif weighB n6 n7 (sa sk (Int.toNat a)) (spanIf (lookE no rate ts ⟨n1, n2, n3, n4, n5, n6, n7, n8, sk⟩ a kn) (turnsLo rate ts ⟨n1, n2, n3, n4, n5, n6, n7, n8, sk⟩ kn)) (spanIf (lookE no rate ts ⟨n1, n2, n3, n4, n5, n6, n7, n8, sk⟩ a kn) (turnsH rate ts ⟨n1, n2, n3, n4, n5, n6, n7, n8, sk⟩ kn)) then
        bif !(w64 (20 * n6) == 0) then
          bif upPre (snowHi n6 n7 (sa sk (Int.toNat a)) (spanIf (lookE no rate ts ⟨n1, n2, n3, n4, n5, n6, n7, n8, sk⟩ a kn) (turnsLo rate ts ⟨n1, n2, n3, n4, n5, n6, n7, n8, sk⟩ kn))) n6 then some (.tup [.agg [.i .i64 (w64 (Int.tdiv (snowLo n6 n7 (sa sk (Int.toNat a)) (spanIf (lookE no rate ts ⟨n1, n2, n3, n4, n5, n6, n7, n8, sk⟩ a kn) (turnsH rate ts ⟨n1, n2, n3, n4, n5, n6, n7, n8, sk⟩ kn))) (w64 (20 * n6)))), .i .i64 (upS (snowHi n6 n7 (sa sk (Int.toNat a)) (spanIf (lookE no rate ts ⟨n1, n2, n3, n4, n5, n6, n7, n8, sk⟩ a kn) (turnsLo rate ts ⟨n1, n2, n3, n4, n5, n6, n7, n8, sk⟩ kn))) n6)], .i .i64 0]) else none
        else none
      else none
    else none := by kernel_rfl
noncomputable def h29 : List V → Option (Bool × V)
  | [.agg [.i .i64 no, .i .i64 rate, .ls [.i .i64, .i .i64, .i .i64, .i .i64] ts fl], .agg [.i .i64 n1, .i .i64 n2, .i .i64 n3, .i .i64 n4, .i .i64 n5, .i .i64 n6, .i .i64 n7, .i .i64 n8, .ls [.i .i64, .i .i64, .i .i64, .i .i64, .i .i64] sk sf], .i .i64 a, .i .i64 kn] => some (true, .tup [.agg [.i .i64 (spanIf (lookE no rate ts ⟨n1, n2, n3, n4, n5, n6, n7, n8, sk⟩ a kn) (waterS rate ts ⟨n1, n2, n3, n4, n5, n6, n7, n8, sk⟩ a kn).1), .i .i64 (spanIf (lookE no rate ts ⟨n1, n2, n3, n4, n5, n6, n7, n8, sk⟩ a kn) (waterS rate ts ⟨n1, n2, n3, n4, n5, n6, n7, n8, sk⟩ a kn).2)], .i .i64 (lookE no rate ts ⟨n1, n2, n3, n4, n5, n6, n7, n8, sk⟩ a kn)])
  | _ => none
theorem okk29 (h : HooksOK P X noHooks) (no : Int) (rate : Int) (ts : List Test) (fl : Bool) (n1 : Int) (n2 : Int) (n3 : Int) (n4 : Int) (n5 : Int) (n6 : Int) (n7 : Int) (n8 : Int) (sk : List Stk) (sf : Bool) (a : Int) (kn : Int)  : Pure P X 29 [.agg [.i .i64 no, .i .i64 rate, .ls T26 ts fl], .agg [.i .i64 n1, .i .i64 n2, .i .i64 n3, .i .i64 n4, .i .i64 n5, .i .i64 n6, .i .i64 n7, .i .i64 n8, .ls T71 sk sf], .i .i64 a, .i .i64 kn] (.tup [.agg [.i .i64 (spanIf (lookE no rate ts ⟨n1, n2, n3, n4, n5, n6, n7, n8, sk⟩ a kn) (waterS rate ts ⟨n1, n2, n3, n4, n5, n6, n7, n8, sk⟩ a kn).1), .i .i64 (spanIf (lookE no rate ts ⟨n1, n2, n3, n4, n5, n6, n7, n8, sk⟩ a kn) (waterS rate ts ⟨n1, n2, n3, n4, n5, n6, n7, n8, sk⟩ a kn).2)], .i .i64 (lookE no rate ts ⟨n1, n2, n3, n4, n5, n6, n7, n8, sk⟩ a kn)]) := by

  refine evP_sound (K14_ok h) ((e29 no rate ts fl n1 n2 n3 n4 n5 n6 n7 n8 sk sf a kn).trans ?_)
  rw [neq0]
  cases he : eqI (lookE no rate ts ⟨n1, n2, n3, n4, n5, n6, n7, n8, sk⟩ a kn) 0 with
  | false => unfold spanIf; rw [he]; rfl
  | true =>
    have h0 := eqI_s.1 he
    obtain ⟨h1, h2⟩ := lookE_0 h0
    obtain ⟨h3, a1, a2⟩ := stakeOfE_0 h1
    have a2 : a < (sk.length : Int) := a2
    have s1 : (spanIf (lookE no rate ts ⟨n1, n2, n3, n4, n5, n6, n7, n8, sk⟩ a kn) (turnsLo rate ts ⟨n1, n2, n3, n4, n5, n6, n7, n8, sk⟩ kn)) = (turnsLo rate ts ⟨n1, n2, n3, n4, n5, n6, n7, n8, sk⟩ kn) := by unfold spanIf; rw [he]; rfl
    have s2 : (spanIf (lookE no rate ts ⟨n1, n2, n3, n4, n5, n6, n7, n8, sk⟩ a kn) (turnsH rate ts ⟨n1, n2, n3, n4, n5, n6, n7, n8, sk⟩ kn)) = (turnsH rate ts ⟨n1, n2, n3, n4, n5, n6, n7, n8, sk⟩ kn) := by unfold spanIf; rw [he]; rfl
    have hw := weigh_at h3 (i := Int.toNat a) (show Int.toNat a < sk.length by omega)
    have hw : weighB n6 n7 (sa sk (Int.toNat a)) (turnsLo rate ts ⟨n1, n2, n3, n4, n5, n6, n7, n8, sk⟩ kn) (turnsH rate ts ⟨n1, n2, n3, n4, n5, n6, n7, n8, sk⟩ kn) = true := hw
    have hb := snow_bnd hw
    have hm := (weighB_s hw).1
    have ht := tdiv_bnd (snowLo n6 n7 (sa sk (Int.toNat a)) (turnsH rate ts ⟨n1, n2, n3, n4, n5, n6, n7, n8, sk⟩ kn)) (b := 20 * n6) (by omega)
    rw [s1, s2, cond_neg (by rfl), cond_pos (inB a1 a2), cond_pos hw, w64S (n := 20 * n6) (by omega) (by omega), cond_pos (by simp; omega), cond_pos (by simp only [upPre, Bool.and_eq_true, decide_eq_true_eq]; omega), w64S (n := Int.tdiv _ _) (by omega) (by omega)]
    unfold spanIf
    rw [he, h0]; rfl
theorem ok29 (h : HooksOK P X noHooks) : ∀ args v, h29 args = some (true, v) → Pure P X 29 args v := by
  intro args v hv
  unfold h29 at hv
  split at hv
  case h_2 => cases hv
  rename_i no rate ts fl n1 n2 n3 n4 n5 n6 n7 n8 sk sf a kn
  simp only [Option.some.injEq, Prod.mk.injEq, Bool.and_eq_true, eqI_s, true_and] at hv
  subst hv
  exact okk29 h _ _ _ _ _ _ _ _ _ _ _ _ _ _ _ _ 
/-! Density -/
theorem e44 (no rate : Int) (ts : List Test) (fl : Bool) (n1 n2 n3 n4 n5 n6 n7 n8 : Int) (sk : List Stk) (sf : Bool) (a kn : Int) : evP P K14 44 [.agg [.i .i64 no, .i .i64 rate, .ls T26 ts fl], .agg [.i .i64 n1, .i .i64 n2, .i .i64 n3, .i .i64 n4, .i .i64 n5, .i .i64 n6, .i .i64 n7, .i .i64 n8, .ls T71 sk sf], .i .i64 a, .i .i64 kn] =
    bif stakeOfE no rate ts ⟨n1, n2, n3, n4, n5, n6, n7, n8, sk⟩ a kn != 0 then some (.tup [.agg [.i .i64 0, .i .i64 0], .i .i64 (stakeOfE no rate ts ⟨n1, n2, n3, n4, n5, n6, n7, n8, sk⟩ a kn)]) else
    bif decide (0 ≤ a) && decide (a < (sk.length : Int)) then
      bif (sa sk (Int.toNat a)).1 == 0 then some (.tup [.agg [.i .i64 0, .i .i64 0], .i .i64 4]) else
      bif okScale rate ts && (dayB n8 && (dayB n3 && (grB n7 sk && lenB sk))) then
        bif (turnsE rate ts ⟨n1, n2, n3, n4, n5, n6, n7, n8, sk⟩ kn) != 0 then some (.tup [.agg [.i .i64 0, .i .i64 0], .i .i64 (turnsE rate ts ⟨n1, n2, n3, n4, n5, n6, n7, n8, sk⟩ kn)]) else
        bif weighB n6 n7 (sa sk (Int.toNat a)) (spanIf (turnsE rate ts ⟨n1, n2, n3, n4, n5, n6, n7, n8, sk⟩ kn) (turnsLo rate ts ⟨n1, n2, n3, n4, n5, n6, n7, n8, sk⟩ kn)) (spanIf (turnsE rate ts ⟨n1, n2, n3, n4, n5, n6, n7, n8, sk⟩ kn) (turnsH rate ts ⟨n1, n2, n3, n4, n5, n6, n7, n8, sk⟩ kn)) then
          bif !(w64 (w64 (20 * n6) * (sa sk (Int.toNat a)).1) == 0) then
            bif upPre (w64 (1000 * snowHi n6 n7 (sa sk (Int.toNat a)) (spanIf (turnsE rate ts ⟨n1, n2, n3, n4, n5, n6, n7, n8, sk⟩ kn) (turnsLo rate ts ⟨n1, n2, n3, n4, n5, n6, n7, n8, sk⟩ kn)))) (w64 (n6 * (sa sk (Int.toNat a)).1)) then
              some (.tup [.agg [.i .i64 (w64 (Int.tdiv (w64 (1000 * snowLo n6 n7 (sa sk (Int.toNat a)) (spanIf (turnsE rate ts ⟨n1, n2, n3, n4, n5, n6, n7, n8, sk⟩ kn) (turnsH rate ts ⟨n1, n2, n3, n4, n5, n6, n7, n8, sk⟩ kn)))) (w64 (w64 (20 * n6) * (sa sk (Int.toNat a)).1)))), .i .i64 (upS (w64 (1000 * snowHi n6 n7 (sa sk (Int.toNat a)) (spanIf (turnsE rate ts ⟨n1, n2, n3, n4, n5, n6, n7, n8, sk⟩ kn) (turnsLo rate ts ⟨n1, n2, n3, n4, n5, n6, n7, n8, sk⟩ kn)))) (w64 (n6 * (sa sk (Int.toNat a)).1)))], .i .i64 0])
            else none
          else none
        else none
      else none
    else none := by kernel_rfl
noncomputable def h44 : List V → Option (Bool × V)
  | [.agg [.i .i64 no, .i .i64 rate, .ls [.i .i64, .i .i64, .i .i64, .i .i64] ts fl], .agg [.i .i64 n1, .i .i64 n2, .i .i64 n3, .i .i64 n4, .i .i64 n5, .i .i64 n6, .i .i64 n7, .i .i64 n8, .ls [.i .i64, .i .i64, .i .i64, .i .i64, .i .i64] sk sf], .i .i64 a, .i .i64 kn] => some (true, .tup [.agg [.i .i64 (spanIf (densE no rate ts ⟨n1, n2, n3, n4, n5, n6, n7, n8, sk⟩ a kn) (densS rate ts ⟨n1, n2, n3, n4, n5, n6, n7, n8, sk⟩ a kn).1), .i .i64 (spanIf (densE no rate ts ⟨n1, n2, n3, n4, n5, n6, n7, n8, sk⟩ a kn) (densS rate ts ⟨n1, n2, n3, n4, n5, n6, n7, n8, sk⟩ a kn).2)], .i .i64 (densE no rate ts ⟨n1, n2, n3, n4, n5, n6, n7, n8, sk⟩ a kn)])
  | _ => none
theorem okk44 (h : HooksOK P X noHooks) (no : Int) (rate : Int) (ts : List Test) (fl : Bool) (n1 : Int) (n2 : Int) (n3 : Int) (n4 : Int) (n5 : Int) (n6 : Int) (n7 : Int) (n8 : Int) (sk : List Stk) (sf : Bool) (a : Int) (kn : Int)  : Pure P X 44 [.agg [.i .i64 no, .i .i64 rate, .ls T26 ts fl], .agg [.i .i64 n1, .i .i64 n2, .i .i64 n3, .i .i64 n4, .i .i64 n5, .i .i64 n6, .i .i64 n7, .i .i64 n8, .ls T71 sk sf], .i .i64 a, .i .i64 kn] (.tup [.agg [.i .i64 (spanIf (densE no rate ts ⟨n1, n2, n3, n4, n5, n6, n7, n8, sk⟩ a kn) (densS rate ts ⟨n1, n2, n3, n4, n5, n6, n7, n8, sk⟩ a kn).1), .i .i64 (spanIf (densE no rate ts ⟨n1, n2, n3, n4, n5, n6, n7, n8, sk⟩ a kn) (densS rate ts ⟨n1, n2, n3, n4, n5, n6, n7, n8, sk⟩ a kn).2)], .i .i64 (densE no rate ts ⟨n1, n2, n3, n4, n5, n6, n7, n8, sk⟩ a kn)]) := by

  refine evP_sound (K14_ok h) ((e44 no rate ts fl n1 n2 n3 n4 n5 n6 n7 n8 sk sf a kn).trans ?_)
  rw [neq0]
  cases he : eqI (stakeOfE no rate ts ⟨n1, n2, n3, n4, n5, n6, n7, n8, sk⟩ a kn) 0 with
  | false =>
    have e : densE no rate ts ⟨n1, n2, n3, n4, n5, n6, n7, n8, sk⟩ a kn = stakeOfE no rate ts ⟨n1, n2, n3, n4, n5, n6, n7, n8, sk⟩ a kn := by unfold densE; rw [he]; rfl
    unfold spanIf; rw [e, he]; rfl
  | true =>
    obtain ⟨h3, a1, a2⟩ := stakeOfE_0 (eqI_s.1 he)
    have a2 : a < (sk.length : Int) := a2
    rw [cond_neg (by rfl), cond_pos (inB a1 a2), eqz]
    cases hd : eqI (sa sk (Int.toNat a)).1 0 with
    | true =>
      have e : densE no rate ts ⟨n1, n2, n3, n4, n5, n6, n7, n8, sk⟩ a kn = 4 := by
        unfold densE
        rw [he]
        show (bif eqI (sa sk (Int.toNat a)).1 0 then (4 : Int) else _) = 4
        rw [hd]; rfl
      unfold spanIf; rw [e]; rfl
    | false =>
      have e : densE no rate ts ⟨n1, n2, n3, n4, n5, n6, n7, n8, sk⟩ a kn = (turnsE rate ts ⟨n1, n2, n3, n4, n5, n6, n7, n8, sk⟩ kn) := by
        unfold densE
        rw [he]
        show (bif eqI (sa sk (Int.toNat a)).1 0 then (4 : Int) else _) = _
        rw [hd]; rfl
      obtain ⟨h5, h6, _, _⟩ := sheetOfE_0 h3
      obtain ⟨d1, d2, g, _, ⟨_, l2⟩, hst⟩ := sheetB_s h6
      have d1 : dayB n3 = true := d1
      have d2 : dayB n8 = true := d2
      have g : grB n7 sk = true := g
      have l2 : sk.length ≤ 32 := l2
      have hst : stakeB (sa sk (Int.toNat a)) = true := hst (Int.toNat a) (show Int.toNat a < sk.length by omega)
      obtain ⟨k1, _, _, _⟩ := stakeB_s hst
      have kne : (sa sk (Int.toNat a)).1 ≠ 0 := by intro h0; rw [eqI_s.2 h0] at hd; cases hd
      rw [e, cond_neg (by rfl), cond_pos (by rw [wellB_scale (scaleE_0 h5).1, d1, d2, g, lenB_s.2 (show sk.length ≤ 1000000000 by omega)]; rfl), neq0]
      cases ht : eqI (turnsE rate ts ⟨n1, n2, n3, n4, n5, n6, n7, n8, sk⟩ kn) 0 with
      | false => unfold spanIf; rw [ht]; rfl
      | true =>
        have s1 : (spanIf (turnsE rate ts ⟨n1, n2, n3, n4, n5, n6, n7, n8, sk⟩ kn) (turnsLo rate ts ⟨n1, n2, n3, n4, n5, n6, n7, n8, sk⟩ kn)) = (turnsLo rate ts ⟨n1, n2, n3, n4, n5, n6, n7, n8, sk⟩ kn) := by unfold spanIf; rw [ht]; rfl
        have s2 : (spanIf (turnsE rate ts ⟨n1, n2, n3, n4, n5, n6, n7, n8, sk⟩ kn) (turnsH rate ts ⟨n1, n2, n3, n4, n5, n6, n7, n8, sk⟩ kn)) = (turnsH rate ts ⟨n1, n2, n3, n4, n5, n6, n7, n8, sk⟩ kn) := by unfold spanIf; rw [ht]; rfl
        have hw := weigh_at h3 (i := Int.toNat a) (show Int.toNat a < sk.length by omega)
        have hw : weighB n6 n7 (sa sk (Int.toNat a)) (turnsLo rate ts ⟨n1, n2, n3, n4, n5, n6, n7, n8, sk⟩ kn) (turnsH rate ts ⟨n1, n2, n3, n4, n5, n6, n7, n8, sk⟩ kn) = true := hw
        have hb := snow_bnd hw
        have hm := (weighB_s hw).1
        have m1 := lost_bnd (a := (sa sk (Int.toNat a)).1) k1 hm
        rw [Int.mul_comm] at m1
        have m0 : 1 ≤ n6 * (sa sk (Int.toNat a)).1 := by
          have := Int.mul_pos (a := n6) (b := (sa sk (Int.toNat a)).1) (by omega) (by omega)
          omega
        have m2 : 20 * n6 * (sa sk (Int.toNat a)).1 = 20 * (n6 * (sa sk (Int.toNat a)).1) := Int.mul_assoc _ _ _
        have hb2 := tdiv_bnd (1000 * snowLo n6 n7 (sa sk (Int.toNat a)) (turnsH rate ts ⟨n1, n2, n3, n4, n5, n6, n7, n8, sk⟩ kn)) (b := 20 * n6 * (sa sk (Int.toNat a)).1) (by omega)
        rw [s1, s2, cond_neg (by rfl), cond_pos hw, w64S (n := 20 * n6) (by omega) (by omega), w64S (n := 20 * n6 * (sa sk (Int.toNat a)).1) (by omega) (by omega), cond_pos (by simp only [Bool.not_eq_true', beq_eq_false_iff_ne, ne_eq]; omega), w64S (n := 1000 * snowHi n6 n7 (sa sk (Int.toNat a)) (turnsLo rate ts ⟨n1, n2, n3, n4, n5, n6, n7, n8, sk⟩ kn)) (by omega) (by omega), w64S (n := n6 * (sa sk (Int.toNat a)).1) (by omega) (by omega), cond_pos (by simp only [upPre, Bool.and_eq_true, decide_eq_true_eq]; omega), w64S (n := 1000 * snowLo n6 n7 (sa sk (Int.toNat a)) (turnsH rate ts ⟨n1, n2, n3, n4, n5, n6, n7, n8, sk⟩ kn)) (by omega) (by omega), w64S (n := Int.tdiv _ _) (by omega) (by omega)]
        unfold spanIf
        rw [ht, eqI_s.1 ht]; rfl
theorem ok44 (h : HooksOK P X noHooks) : ∀ args v, h44 args = some (true, v) → Pure P X 44 args v := by
  intro args v hv
  unfold h44 at hv
  split at hv
  case h_2 => cases hv
  rename_i no rate ts fl n1 n2 n3 n4 n5 n6 n7 n8 sk sf a kn
  simp only [Option.some.injEq, Prod.mk.injEq, Bool.and_eq_true, eqI_s, true_and] at hv
  subst hv
  exact okk44 h _ _ _ _ _ _ _ _ _ _ _ _ _ _ _ _ 
/-! Course -/
theorem allW_at {m e : Int} {sk : List Stk} {tl th : Int} (h : allW m e sk tl th = true) {i : Nat} (hi : i < sk.length) : weighB m e (sa sk i) tl th = true := by
  unfold sa
  rw [List.getD_eq_getElem?_getD, List.getElem?_eq_getElem hi]
  exact List.all_eq_true.1 h _ (List.getElem_mem hi)
def S46 (no : Int) (rate : Int) (ts : List Test) (fl : Bool) (n1 : Int) (n2 : Int) (n3 : Int) (n4 : Int) (n5 : Int) (n6 : Int) (n7 : Int) (n8 : Int) (sk : List Stk) (sf : Bool) (x : Int) (y : Int) (tl : Int) (th : Int) (len : Int) (i : Int) : St :=
  ⟨[(4, .p 1 0), (6, .p 2 0), (7, .i .i64 0), (8, .p 3 0), (10, .i .i64 x), (11, .i .i64 y), (29, .ls T71 sk sf), (30, .i .i64 len), (31, .i .i64 i)], [.c 24 [.i .i64 no, .i .i64 rate, .ls T26 ts fl], .c 47 [.i .i64 n1, .i .i64 n2, .i .i64 n3, .i .i64 n4, .i .i64 n5, .i .i64 n6, .i .i64 n7, .i .i64 n8, .ls T71 sk sf], .c 40 [.i .i64 0, .i .i64 0], .c 103 [.i .i64 tl, .i .i64 th]], []⟩
theorem r46 (no rate : Int) (ts : List Test) (fl : Bool) (n1 n2 n3 n4 n5 n6 n7 n8 : Int) (sk : List Stk) (sf : Bool) (x y tl th len i : Int) : evRound P K14 46 6 (S46 no rate ts fl n1 n2 n3 n4 n5 n6 n7 n8 sk sf x y tl th len i) =
    bif decide (i < len) then
      bif decide (0 ≤ i) && decide (i < (sk.length : Int)) then
        bif weighB n6 n7 (sa sk (Int.toNat i)) tl th then some (.n, S46 no rate ts fl n1 n2 n3 n4 n5 n6 n7 n8 sk sf (w64 (x + snowLo n6 n7 (sa sk (Int.toNat i)) th)) (w64 (y + snowHi n6 n7 (sa sk (Int.toNat i)) tl)) tl th len (w64 (i + 1))) else none
      else none
    else some (.exit 0, S46 no rate ts fl n1 n2 n3 n4 n5 n6 n7 n8 sk sf x y tl th len i) := by kernel_rfl
noncomputable def l46 : St → Option (Tr (Ex × St))
  | ⟨[(4, .p 1 0), (6, .p 2 0), (7, .i .i64 0), (8, .p 3 0), (10, .i .i64 x), (11, .i .i64 y), (29, .ls [.i .i64, .i .i64, .i .i64, .i .i64, .i .i64] sk sf), (30, .i .i64 len), (31, .i .i64 i)], [.c 24 [.i .i64 no, .i .i64 rate, .ls [.i .i64, .i .i64, .i .i64, .i .i64] ts fl], .c 47 [.i .i64 n1, .i .i64 n2, .i .i64 n3, .i .i64 n4, .i .i64 n5, .i .i64 n6, .i .i64 n7, .i .i64 n8, .ls [.i .i64, .i .i64, .i .i64, .i .i64, .i .i64] sk' sf'], .c 40 [.i .i64 0, .i .i64 0], .c 103 [.i .i64 tl, .i .i64 th]], []⟩ =>
    some (.test (eqI x (0) && (eqI y (0) && (eqI len (sk.length) && (eqI i (0) && (eqS sk' sk && (eqB sf' sf && ((allW n6 n7 sk tl th) && (decide (sk.length ≤ 1000)))))))))
    (.ok (.exit 0, ((fun i s => S46 no rate ts fl n1 n2 n3 n4 n5 n6 n7 n8 sk sf s.1 s.2 tl th sk.length i : Nat → Int × Int → St)) (upL (σ := Int × Int) (fun _ _ => false) (sumStep n6 n7 sk tl th) (sk.length) (0) ((0, 0))).2.1 (upL (σ := Int × Int) (fun _ _ => false) (sumStep n6 n7 sk tl th) (sk.length) (0) ((0, 0))).2.2))
    .fail)
  | _ => none
theorem lrun46 (h : HooksOK P X noHooks) (no : Int) (rate : Int) (ts : List Test) (fl : Bool) (n1 : Int) (n2 : Int) (n3 : Int) (n4 : Int) (n5 : Int) (n6 : Int) (n7 : Int) (n8 : Int) (sk : List Stk) (sf : Bool) (tl : Int) (th : Int) (p0 : (allW n6 n7 sk tl th) = true) (p1 : (decide (sk.length ≤ 1000)) = true) (e : Ex) (st' : St)
    (ht : (Tr.get (.ok (.exit 0, ((fun i s => S46 no rate ts fl n1 n2 n3 n4 n5 n6 n7 n8 sk sf s.1 s.2 tl th sk.length i : Nat → Int × Int → St)) (upL (σ := Int × Int) (fun _ _ => false) (sumStep n6 n7 sk tl th) (sk.length) (0) ((0, 0))).2.1 (upL (σ := Int × Int) (fun _ _ => false) (sumStep n6 n7 sk tl th) (sk.length) (0) ((0, 0))).2.2))) = some (e, st')) : LoopV P X 46 6 (S46 no rate ts fl n1 n2 n3 n4 n5 n6 n7 n8 sk sf (0) (0) tl th (sk.length) (0)) e st' := by
  refine LoopV.run (K14_ok h) (σ := Int × Int) (n := sk.length) (stop := fun _ _ => false) (step := sumStep n6 n7 sk tl th) (e1 := .ret) (e2 := .exit 0) (st := (fun i s => S46 no rate ts fl n1 n2 n3 n4 n5 n6 n7 n8 sk sf s.1 s.2 tl th sk.length i : Nat → Int × Int → St)) (s1 := (fun i s => S46 no rate ts fl n1 n2 n3 n4 n5 n6 n7 n8 sk sf s.1 s.2 tl th sk.length i : Nat → Int × Int → St)) (s2 := (fun i s => S46 no rate ts fl n1 n2 n3 n4 n5 n6 n7 n8 sk sf s.1 s.2 tl th sk.length i : Nat → Int × Int → St)) (fun i s => (0 ≤ s.1 ∧ s.1 ≤ 500000000 * (i : Int)) ∧ (-20000000 * (i : Int) ≤ s.2 ∧ s.2 ≤ 50000000 * (i : Int)))
    (fun j s hinv hi hs => ?_) (by simp) (fun j s hinv hi hs => ?_) (fun s hinv => ?_) (by simp) (sk.length) (0) ((0, 0)) (by omega) ?_ e st' (by rw [upF]; exact ht)

  · cases hs
  · have hlen : sk.length ≤ 1000 := by simpa using p1
    have hw := allW_at p0 hi
    have hb := snow_bnd hw
    rw [r46, cond_pos (by simpa using hi), cond_pos (inB (by omega) (by omega)), Int.toNat_natCast, cond_pos hw, natS (by omega), w64S (n := s.1 + snowLo n6 n7 (sa sk j) th) (by omega) (by omega), w64S (n := s.2 + snowHi n6 n7 (sa sk j) tl) (by omega) (by omega)]
    refine ⟨rfl, ?_⟩
    show (0 ≤ s.1 + snowLo n6 n7 (sa sk j) th ∧ s.1 + snowLo n6 n7 (sa sk j) th ≤ _) ∧ (_ ≤ s.2 + snowHi n6 n7 (sa sk j) tl ∧ s.2 + snowHi n6 n7 (sa sk j) tl ≤ _)
    omega
  · rw [r46, cond_neg (by simp)]
  · exact ⟨⟨by omega, by omega⟩, by omega, by omega⟩
theorem lok46 (h : HooksOK P X noHooks) : ∀ st t e st', l46 st = some t → t.get = some (e, st') → LoopV P X 46 6 st e st' := by
  intro st t e st' hl ht
  unfold l46 at hl
  split at hl
  case h_2 => cases hl
  rename_i x y sk sf len i no rate ts fl n1 n2 n3 n4 n5 n6 n7 n8 sk' sf' tl th
  cases hl
  replace ht := ht
  have hc : (eqI x (0) && (eqI y (0) && (eqI len (sk.length) && (eqI i (0) && (eqS sk' sk && (eqB sf' sf && ((allW n6 n7 sk tl th) && (decide (sk.length ≤ 1000))))))))) = true := by
    cases hc : (eqI x (0) && (eqI y (0) && (eqI len (sk.length) && (eqI i (0) && (eqS sk' sk && (eqB sf' sf && ((allW n6 n7 sk tl th) && (decide (sk.length ≤ 1000))))))))) with
    | true => rfl
    | false => rw [hc] at ht; cases ht
  rw [hc] at ht
  simp only [Bool.and_eq_true, eqI_s] at hc
  obtain ⟨rfl, rfl, rfl, rfl, q_skx, q_sfx, p0, p1⟩ := hc
  obtain rfl := eqS_s.1 q_skx
  obtain rfl := eqB_s.1 q_sfx
  exact lrun46 h _ _ _ _ _ _ _ _ _ _ _ _ _ _ _ _ p0 p1 e st' ht
noncomputable def K15 : Hooks := K14.loop1 46 6 l46
theorem K15_ok (h : HooksOK P X noHooks) : HooksOK P X K15 := (K14_ok h).loop1 (lok46 h)
theorem e46 (no rate : Int) (ts : List Test) (fl : Bool) (n1 n2 n3 n4 n5 n6 n7 n8 : Int) (sk : List Stk) (sf : Bool) (kn : Int) : evP P K15 46 [.agg [.i .i64 no, .i .i64 rate, .ls T26 ts fl], .agg [.i .i64 n1, .i .i64 n2, .i .i64 n3, .i .i64 n4, .i .i64 n5, .i .i64 n6, .i .i64 n7, .i .i64 n8, .ls T71 sk sf], .i .i64 kn] =
    bif (lookE no rate ts ⟨n1, n2, n3, n4, n5, n6, n7, n8, sk⟩ 0 kn) != 0 then some (.tup [.agg [.i .i64 0, .i .i64 0], .i .i64 (lookE no rate ts ⟨n1, n2, n3, n4, n5, n6, n7, n8, sk⟩ 0 kn)]) else
    bif eqI 0 0 && (eqI 0 0 && (eqI (sk.length : Int) (sk.length : Int) && (eqI 0 0 && (eqS sk sk && (eqB sf sf && (allW n6 n7 sk (spanIf (lookE no rate ts ⟨n1, n2, n3, n4, n5, n6, n7, n8, sk⟩ 0 kn) (turnsLo rate ts ⟨n1, n2, n3, n4, n5, n6, n7, n8, sk⟩ kn)) (spanIf (lookE no rate ts ⟨n1, n2, n3, n4, n5, n6, n7, n8, sk⟩ 0 kn) (turnsH rate ts ⟨n1, n2, n3, n4, n5, n6, n7, n8, sk⟩ kn)) && decide (sk.length ≤ 1000))))))) then
      bif !(w64 (20 * w64 (n6 * (sk.length : Int))) == 0) then
        bif upPre (sumS n6 n7 sk (spanIf (lookE no rate ts ⟨n1, n2, n3, n4, n5, n6, n7, n8, sk⟩ 0 kn) (turnsLo rate ts ⟨n1, n2, n3, n4, n5, n6, n7, n8, sk⟩ kn)) (spanIf (lookE no rate ts ⟨n1, n2, n3, n4, n5, n6, n7, n8, sk⟩ 0 kn) (turnsH rate ts ⟨n1, n2, n3, n4, n5, n6, n7, n8, sk⟩ kn))).2 (w64 (n6 * (sk.length : Int))) then
          some (.tup [.agg [.i .i64 (w64 (Int.tdiv (sumS n6 n7 sk (spanIf (lookE no rate ts ⟨n1, n2, n3, n4, n5, n6, n7, n8, sk⟩ 0 kn) (turnsLo rate ts ⟨n1, n2, n3, n4, n5, n6, n7, n8, sk⟩ kn)) (spanIf (lookE no rate ts ⟨n1, n2, n3, n4, n5, n6, n7, n8, sk⟩ 0 kn) (turnsH rate ts ⟨n1, n2, n3, n4, n5, n6, n7, n8, sk⟩ kn))).1 (w64 (20 * w64 (n6 * (sk.length : Int)))))), .i .i64 (upS (sumS n6 n7 sk (spanIf (lookE no rate ts ⟨n1, n2, n3, n4, n5, n6, n7, n8, sk⟩ 0 kn) (turnsLo rate ts ⟨n1, n2, n3, n4, n5, n6, n7, n8, sk⟩ kn)) (spanIf (lookE no rate ts ⟨n1, n2, n3, n4, n5, n6, n7, n8, sk⟩ 0 kn) (turnsH rate ts ⟨n1, n2, n3, n4, n5, n6, n7, n8, sk⟩ kn))).2 (w64 (n6 * (sk.length : Int))))], .i .i64 0])
        else none
      else none
    else none := by kernel_rfl
theorem sum_bnd {m e : Int} {sk : List Stk} {tl th : Int} (h : allW m e sk tl th = true) (hl : sk.length ≤ 1000) : 0 ≤ (sumS m e sk tl th).1 ∧ (sumS m e sk tl th).1 ≤ 500000000000 ∧ -20000000000 ≤ (sumS m e sk tl th).2 ∧ (sumS m e sk tl th).2 ≤ 50000000000 := by
  have key : ∀ (k i : Nat) (s : Int × Int), i + k = sk.length → ((0 ≤ s.1 ∧ s.1 ≤ 500000000 * (i : Int)) ∧ (-20000000 * (i : Int) ≤ s.2 ∧ s.2 ≤ 50000000 * (i : Int))) →
      (0 ≤ (upL (fun _ _ => false) (sumStep m e sk tl th) k i s).2.2.1 ∧ (upL (fun _ _ => false) (sumStep m e sk tl th) k i s).2.2.1 ≤ 500000000 * (sk.length : Int)) ∧ (-20000000 * (sk.length : Int) ≤ (upL (fun _ _ => false) (sumStep m e sk tl th) k i s).2.2.2 ∧ (upL (fun _ _ => false) (sumStep m e sk tl th) k i s).2.2.2 ≤ 50000000 * (sk.length : Int)) := by
    intro k
    induction k with
    | zero => intro i s hi hs; obtain rfl : i = sk.length := by omega
              exact hs
    | succ k ih =>
      intro i s hi hs
      have hb := snow_bnd (allW_at h (show i < sk.length by omega))
      simp only [upL, cond_false]
      refine ih (i + 1) _ (by omega) ?_
      show (0 ≤ s.1 + _ ∧ s.1 + _ ≤ _) ∧ (_ ≤ s.2 + _ ∧ s.2 + _ ≤ _)
      omega
  have := key sk.length 0 (0, 0) (by omega) ⟨⟨by simp, by simp⟩, by simp, by simp⟩
  unfold sumS
  omega
theorem allW_of {no rate : Int} {ts : List Test} {sh : Sh} {kn : Int} (h : sheetOfE no rate ts sh kn = 0) : allW sh.mouth sh.empty sh.st (turnsLo rate ts sh kn) (turnsH rate ts sh kn) = true := by
  unfold allW
  rw [List.all_eq_true]
  intro x hx
  obtain ⟨i, hi, rfl⟩ := List.getElem_of_mem hx
  have := weigh_at h hi
  unfold sa at this
  rwa [List.getD_eq_getElem?_getD, List.getElem?_eq_getElem hi] at this
noncomputable def h46 : List V → Option (Bool × V)
  | [.agg [.i .i64 no, .i .i64 rate, .ls [.i .i64, .i .i64, .i .i64, .i .i64] ts fl], .agg [.i .i64 n1, .i .i64 n2, .i .i64 n3, .i .i64 n4, .i .i64 n5, .i .i64 n6, .i .i64 n7, .i .i64 n8, .ls [.i .i64, .i .i64, .i .i64, .i .i64, .i .i64] sk sf], .i .i64 kn] => some (true, .tup [.agg [.i .i64 (spanIf (lookE no rate ts ⟨n1, n2, n3, n4, n5, n6, n7, n8, sk⟩ 0 kn) (courseS rate ts ⟨n1, n2, n3, n4, n5, n6, n7, n8, sk⟩ kn).1), .i .i64 (spanIf (lookE no rate ts ⟨n1, n2, n3, n4, n5, n6, n7, n8, sk⟩ 0 kn) (courseS rate ts ⟨n1, n2, n3, n4, n5, n6, n7, n8, sk⟩ kn).2)], .i .i64 (lookE no rate ts ⟨n1, n2, n3, n4, n5, n6, n7, n8, sk⟩ 0 kn)])
  | _ => none
theorem okk46 (h : HooksOK P X noHooks) (no : Int) (rate : Int) (ts : List Test) (fl : Bool) (n1 : Int) (n2 : Int) (n3 : Int) (n4 : Int) (n5 : Int) (n6 : Int) (n7 : Int) (n8 : Int) (sk : List Stk) (sf : Bool) (kn : Int)  : Pure P X 46 [.agg [.i .i64 no, .i .i64 rate, .ls T26 ts fl], .agg [.i .i64 n1, .i .i64 n2, .i .i64 n3, .i .i64 n4, .i .i64 n5, .i .i64 n6, .i .i64 n7, .i .i64 n8, .ls T71 sk sf], .i .i64 kn] (.tup [.agg [.i .i64 (spanIf (lookE no rate ts ⟨n1, n2, n3, n4, n5, n6, n7, n8, sk⟩ 0 kn) (courseS rate ts ⟨n1, n2, n3, n4, n5, n6, n7, n8, sk⟩ kn).1), .i .i64 (spanIf (lookE no rate ts ⟨n1, n2, n3, n4, n5, n6, n7, n8, sk⟩ 0 kn) (courseS rate ts ⟨n1, n2, n3, n4, n5, n6, n7, n8, sk⟩ kn).2)], .i .i64 (lookE no rate ts ⟨n1, n2, n3, n4, n5, n6, n7, n8, sk⟩ 0 kn)]) := by

  refine evP_sound (K15_ok h) ((e46 no rate ts fl n1 n2 n3 n4 n5 n6 n7 n8 sk sf kn).trans ?_)
  rw [neq0]
  cases he : eqI (lookE no rate ts ⟨n1, n2, n3, n4, n5, n6, n7, n8, sk⟩ 0 kn) 0 with
  | false => unfold spanIf; rw [he]; rfl
  | true =>
    have h0 := eqI_s.1 he
    obtain ⟨h1, h2⟩ := lookE_0 h0
    obtain ⟨h3, _, _⟩ := stakeOfE_0 h1
    obtain ⟨_, h6, _, _⟩ := sheetOfE_0 h3
    obtain ⟨_, _, _, m12, ⟨l1, l2⟩, _⟩ := sheetB_s h6
    have m12 : 1 ≤ n6 ∧ n6 ≤ 1000 := m12
    have l1 : 1 ≤ sk.length := l1
    have l2 : sk.length ≤ 32 := l2
    have s1 : (spanIf (lookE no rate ts ⟨n1, n2, n3, n4, n5, n6, n7, n8, sk⟩ 0 kn) (turnsLo rate ts ⟨n1, n2, n3, n4, n5, n6, n7, n8, sk⟩ kn)) = (turnsLo rate ts ⟨n1, n2, n3, n4, n5, n6, n7, n8, sk⟩ kn) := by unfold spanIf; rw [he]; rfl
    have s2 : (spanIf (lookE no rate ts ⟨n1, n2, n3, n4, n5, n6, n7, n8, sk⟩ 0 kn) (turnsH rate ts ⟨n1, n2, n3, n4, n5, n6, n7, n8, sk⟩ kn)) = (turnsH rate ts ⟨n1, n2, n3, n4, n5, n6, n7, n8, sk⟩ kn) := by unfold spanIf; rw [he]; rfl
    have hw := allW_of h3
    have hw : allW n6 n7 sk (turnsLo rate ts ⟨n1, n2, n3, n4, n5, n6, n7, n8, sk⟩ kn) (turnsH rate ts ⟨n1, n2, n3, n4, n5, n6, n7, n8, sk⟩ kn) = true := hw
    have hb := sum_bnd hw (by omega)
    have m1 := lost_bnd (a := (sk.length : Int)) (m := n6) ⟨by omega, by omega⟩ m12
    rw [Int.mul_comm] at m1
    have m0 : 1 ≤ n6 * (sk.length : Int) := by
      have := Int.mul_pos (a := n6) (b := (sk.length : Int)) (by omega) (by omega)
      omega
    have hd := tdiv_bnd (sumS n6 n7 sk (turnsLo rate ts ⟨n1, n2, n3, n4, n5, n6, n7, n8, sk⟩ kn) (turnsH rate ts ⟨n1, n2, n3, n4, n5, n6, n7, n8, sk⟩ kn)).1 (b := 20 * (n6 * (sk.length : Int))) (by omega)
    rw [s1, s2, cond_neg (by rfl), cond_pos (by rw [hw]; simp [eqI_s, eqS_s, eqB_s]; omega), w64S (n := n6 * (sk.length : Int)) (by omega) (by omega), w64S (n := 20 * (n6 * (sk.length : Int))) (by omega) (by omega), cond_pos (by simp only [Bool.not_eq_true', beq_eq_false_iff_ne, ne_eq]; omega), cond_pos (by simp only [upPre, Bool.and_eq_true, decide_eq_true_eq]; omega), w64S (n := Int.tdiv _ _) (by omega) (by omega)]
    unfold spanIf
    rw [he, h0]; rfl
theorem ok46 (h : HooksOK P X noHooks) : ∀ args v, h46 args = some (true, v) → Pure P X 46 args v := by
  intro args v hv
  unfold h46 at hv
  split at hv
  case h_2 => cases hv
  rename_i no rate ts fl n1 n2 n3 n4 n5 n6 n7 n8 sk sf kn
  simp only [Option.some.injEq, Prod.mk.injEq, Bool.and_eq_true, eqI_s, true_and] at hv
  subst hv
  exact okk46 h _ _ _ _ _ _ _ _ _ _ _ _ _ _ _ 
noncomputable def K16 : Hooks := (((K15.call1 27 h27).call1 29 h29).call1 44 h44).call1 46 h46
theorem K16_ok (h : HooksOK P X noHooks) : HooksOK P X K16 := ((((K15_ok h).call1 (ok27 h)).call1 (ok29 h)).call1 (ok44 h)).call1 (ok46 h)
end Go.Mini.Co
end
