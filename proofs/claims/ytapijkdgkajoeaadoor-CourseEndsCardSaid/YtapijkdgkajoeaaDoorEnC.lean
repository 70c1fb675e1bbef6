/- For every input that is laid in the world, with the listed tables as the program text lays them, the law CourseEnds returns true, and its arguments read as before; no condition. Part 3 of 3. -/
import Derived.Test.YtapijkdgkajoeaaDoorEnB
import Derived.KernelRfl
import Derived.Shelf.Strconv.Itoa0
import Derived.Shelf.Strconv.Itoa1
import Derived.Shelf.LaysM
import Derived.Shelf.Strconv.Itoa2
import Derived.Shelf.Strconv.Itoa3
import Derived.Test.YtapijkdgkajoeaaDoorProg
import Derived.Lib.LaidTab
import Derived.Lib.AppendIntMem
import Derived.Test.YtapijkdgkajoeaaDoorRows
import Derived.ProofKit
import Derived.LaidMore
import Derived.LaidHandle
import Derived.MakeChecks
import Derived.OpenShut
import Derived.ChangeOld
import Derived.Test.YtapijkdgkajoeaaDoorCards
import Derived.Test.YtapijkdgkajoeaaDoorTie
import Derived.Stop.Joined
import Derived.SevenTiedAt
section
set_option linter.unusedVariables false
set_option linter.unusedSimpArgs false
set_option maxRecDepth 100000
namespace Go.Mini.Co
open Go Go.Mini
variable {X : Fz → Prop}
theorem natS {i : Nat} (h : i ≤ 2000000000) : w64 ((i : Int) + 1) = ((i + 1 : Nat) : Int) := by rw [w64S (by omega) (by omega)]; omega
theorem predS {i : Nat} (h0 : 0 < i) (h : i ≤ 2000000000) : w64 ((i : Int) - 1) = ((i - 1 : Nat) : Int) := by rw [w64S (by omega) (by omega)]; omega
theorem allOk_at {ts : List Test} (h : allOk ts = true) {i : Nat} (hi : i < ts.length) : okTest (ta ts i) = true := by
  unfold ta
  rw [List.getD_eq_getElem?_getD, List.getElem?_eq_getElem hi]
  exact List.all_eq_true.1 h _ (List.getElem_mem hi)
/-! Apart -/
def S14i (no : Int) (rate : Int) (ts : List Test) (fl : Bool) (bb : Bool) (u : Int) (v : Int) (i : Int) (k : Int) (len : Int) (i2 : Int) (a : Int) (b : Int) (c : Int) (d : Int) : St :=
  ⟨[(1, .p 0 0), (2, .p 1 0), (3, .b bb), (4, .i .i64 0), (6, .i .i64 i), (7, .p 2 0), (8, .i .i64 k), (16, .ls T26 ts fl), (17, .i .i64 len), (18, .i .i64 i2)], [.c 24 [.i .i64 no, .i .i64 rate, .ls T26 ts fl], .c 28 [.i .i64 u, .i .i64 v], .c 26 [.i .i64 a, .i .i64 b, .i .i64 c, .i .i64 d]], []⟩
theorem r14i (no rate : Int) (ts : List Test) (fl : Bool) (i k len i2 a b c d : Int) : evRound P H4 14 8 (S14i no rate ts fl false 0 0 i k len i2 a b c d) =
    bif decide (k < (ts.length : Int)) then
      bif decide (0 ≤ k) && decide (k < (ts.length : Int)) then
        bif okRate rate && (okTest (a, b, c, d, ()) && okTest (ta ts (Int.toNat k))) then
          bif contraB rate (a, b, c, d, ()) (ta ts (Int.toNat k)) then some (.ret, S14i no rate ts fl true i k i k len i2 a b c d) else some (.n, S14i no rate ts fl false 0 0 i (w64 (k + 1)) len i2 a b c d)
        else none
      else none
    else some (.exit 2, S14i no rate ts fl false 0 0 i k len i2 a b c d) := by kernel_rfl
noncomputable def l14i : St → Option (Tr (Ex × St))
  | ⟨[(1, .p 0 0), (2, .p 1 0), (3, .b bb), (4, .i .i64 0), (6, .i .i64 i), (7, .p 2 0), (8, .i .i64 k), (16, .ls [.i .i64, .i .i64, .i .i64, .i .i64] ts fl), (17, .i .i64 len), (18, .i .i64 i2)], [.c 24 [.i .i64 no, .i .i64 rate, .ls [.i .i64, .i .i64, .i .i64, .i .i64] ts' fl'], .c 28 [.i .i64 u, .i .i64 v], .c 26 [.i .i64 a, .i .i64 b, .i .i64 c, .i .i64 d]], []⟩ =>
    some (.test (eqB bb (false) && (eqI u (0) && (eqI v (0) && (eqI k (((Int.toNat i + 1 : Nat) : Int)) && (eqT ts' ts && (eqB fl' fl && ((decide (Int.toNat i < ts.length)) && ((okRate rate) && ((okTest (a, b, c, d, ())) && ((allOk ts) && (lenB ts)))))))))))
    (.test (upL (σ := Unit) (fun k _ => contraB rate (a, b, c, d, ()) (ta ts k)) (fun _ s => s) (ts.length - (Int.toNat i + 1)) (Int.toNat i + 1) (())).1
      (.ok (.ret, ((fun k s => S14i no rate ts fl true i k i k len i2 a b c d : Nat → Unit → St)) (upL (σ := Unit) (fun k _ => contraB rate (a, b, c, d, ()) (ta ts k)) (fun _ s => s) (ts.length - (Int.toNat i + 1)) (Int.toNat i + 1) (())).2.1 (upL (σ := Unit) (fun k _ => contraB rate (a, b, c, d, ()) (ta ts k)) (fun _ s => s) (ts.length - (Int.toNat i + 1)) (Int.toNat i + 1) (())).2.2))
      (.ok (.exit 2, ((fun k s => S14i no rate ts fl false 0 0 i k len i2 a b c d : Nat → Unit → St)) (upL (σ := Unit) (fun k _ => contraB rate (a, b, c, d, ()) (ta ts k)) (fun _ s => s) (ts.length - (Int.toNat i + 1)) (Int.toNat i + 1) (())).2.1 (upL (σ := Unit) (fun k _ => contraB rate (a, b, c, d, ()) (ta ts k)) (fun _ s => s) (ts.length - (Int.toNat i + 1)) (Int.toNat i + 1) (())).2.2)))
    .fail)
  | _ => none
theorem lrun14i (h : HooksOK P X noHooks) (no : Int) (rate : Int) (ts : List Test) (fl : Bool) (i : Int) (len : Int) (i2 : Int) (a : Int) (b : Int) (c : Int) (d : Int) (p0 : (decide (Int.toNat i < ts.length)) = true) (p1 : (okRate rate) = true) (p2 : (okTest (a, b, c, d, ())) = true) (p3 : (allOk ts) = true) (p4 : (lenB ts) = true) (e : Ex) (st' : St)
    (ht : (Tr.get (.test (upL (σ := Unit) (fun k _ => contraB rate (a, b, c, d, ()) (ta ts k)) (fun _ s => s) (ts.length - (Int.toNat i + 1)) (Int.toNat i + 1) (())).1
      (.ok (.ret, ((fun k s => S14i no rate ts fl true i k i k len i2 a b c d : Nat → Unit → St)) (upL (σ := Unit) (fun k _ => contraB rate (a, b, c, d, ()) (ta ts k)) (fun _ s => s) (ts.length - (Int.toNat i + 1)) (Int.toNat i + 1) (())).2.1 (upL (σ := Unit) (fun k _ => contraB rate (a, b, c, d, ()) (ta ts k)) (fun _ s => s) (ts.length - (Int.toNat i + 1)) (Int.toNat i + 1) (())).2.2))
      (.ok (.exit 2, ((fun k s => S14i no rate ts fl false 0 0 i k len i2 a b c d : Nat → Unit → St)) (upL (σ := Unit) (fun k _ => contraB rate (a, b, c, d, ()) (ta ts k)) (fun _ s => s) (ts.length - (Int.toNat i + 1)) (Int.toNat i + 1) (())).2.1 (upL (σ := Unit) (fun k _ => contraB rate (a, b, c, d, ()) (ta ts k)) (fun _ s => s) (ts.length - (Int.toNat i + 1)) (Int.toNat i + 1) (())).2.2)))) = some (e, st')) : LoopV P X 14 8 (S14i no rate ts fl (false) (0) (0) i (((Int.toNat i + 1 : Nat) : Int)) len i2 a b c d) e st' := by
  refine LoopV.run (H4_ok h) (σ := Unit) (n := (Int.toNat i + 1) + (ts.length - (Int.toNat i + 1))) (stop := fun k _ => contraB rate (a, b, c, d, ()) (ta ts k)) (step := fun _ s => s) (e1 := .ret) (e2 := .exit 2) (st := (fun k s => S14i no rate ts fl false 0 0 i k len i2 a b c d : Nat → Unit → St)) (s1 := (fun k s => S14i no rate ts fl true i k i k len i2 a b c d : Nat → Unit → St)) (s2 := (fun k s => S14i no rate ts fl false 0 0 i k len i2 a b c d : Nat → Unit → St)) (fun _ _ => True)
    (fun j s hinv hi hs => ?_) (by simp) (fun j s hinv hi hs => ?_) (fun s hinv => ?_) (by simp) (ts.length - (Int.toNat i + 1)) (Int.toNat i + 1) (()) (by omega) ?_ e st' ht

  · have hlen := lenB_s.1 p4
    have hp0 : Int.toNat i < ts.length := by simpa using p0
    have hn : j < ts.length := by omega
    rw [r14i, cond_pos (by simpa using hn), cond_pos (inB (by omega) (by omega)), Int.toNat_natCast, cond_pos (by rw [p1, p2, allOk_at p3 hn]; rfl), cond_pos hs]
  · have hlen := lenB_s.1 p4
    have hp0 : Int.toNat i < ts.length := by simpa using p0
    have hn : j < ts.length := by omega
    refine ⟨?_, trivial⟩
    rw [r14i, cond_pos (by simpa using hn), cond_pos (inB (by omega) (by omega)), Int.toNat_natCast, cond_pos (by rw [p1, p2, allOk_at p3 hn]; rfl), cond_neg hs, natS (by omega)]
  · have : Int.toNat i < ts.length := by simpa using p0
    rw [r14i, cond_neg (by simp; omega)]
  · trivial
theorem lok14i (h : HooksOK P X noHooks) : ∀ st t e st', l14i st = some t → t.get = some (e, st') → LoopV P X 14 8 st e st' := by
  intro st t e st' hl ht
  unfold l14i at hl
  split at hl
  case h_2 => cases hl
  rename_i bb i k ts fl len i2 no rate ts' fl' u v a b c d
  cases hl
  replace ht := ht
  have hc : (eqB bb (false) && (eqI u (0) && (eqI v (0) && (eqI k (((Int.toNat i + 1 : Nat) : Int)) && (eqT ts' ts && (eqB fl' fl && ((decide (Int.toNat i < ts.length)) && ((okRate rate) && ((okTest (a, b, c, d, ())) && ((allOk ts) && (lenB ts))))))))))) = true := by
    cases hc : (eqB bb (false) && (eqI u (0) && (eqI v (0) && (eqI k (((Int.toNat i + 1 : Nat) : Int)) && (eqT ts' ts && (eqB fl' fl && ((decide (Int.toNat i < ts.length)) && ((okRate rate) && ((okTest (a, b, c, d, ())) && ((allOk ts) && (lenB ts))))))))))) with
    | true => rfl
    | false => rw [hc] at ht; cases ht
  rw [hc] at ht
  simp only [Bool.and_eq_true, eqI_s] at hc
  obtain ⟨q_bb, rfl, rfl, rfl, q_tsx, q_flx, p0, p1, p2, p3, p4⟩ := hc
  obtain rfl := eqB_s.1 q_bb
  obtain rfl := eqT_s.1 q_tsx
  obtain rfl := eqB_s.1 q_flx
  exact lrun14i h _ _ _ _ _ _ _ _ _ _ _ p0 p1 p2 p3 p4 e st' ht
noncomputable def H5 : Hooks := H4.loop1 14 8 l14i
theorem H5_ok (h : HooksOK P X noHooks) : HooksOK P X H5 := (H4_ok h).loop1 (lok14i h)
def S14o (no : Int) (rate : Int) (ts : List Test) (fl : Bool) (bb : Bool) (u : Int) (v : Int) (len : Int) (i : Int) : St :=
  ⟨[(1, .p 0 0), (2, .p 1 0), (3, .b bb), (4, .i .i64 0), (16, .ls T26 ts fl), (17, .i .i64 len), (18, .i .i64 i)], [.c 24 [.i .i64 no, .i .i64 rate, .ls T26 ts fl], .c 28 [.i .i64 u, .i .i64 v]], []⟩
theorem r14o (no rate : Int) (ts : List Test) (fl : Bool) (len i : Int) : evRound P H5 14 5 (S14o no rate ts fl false 0 0 len i) =
    bif decide (i < len) then
      bif decide (0 ≤ i) && decide (i < (ts.length : Int)) then
        bif eqB false false && (eqI 0 0 && (eqI 0 0 && (eqI (w64 (i + 1)) ((Int.toNat i + 1 : Nat) : Int) && (eqT ts ts && (eqB fl fl && (decide (Int.toNat i < ts.length) && (okRate rate && (okTest (ta ts (Int.toNat i)) && (allOk ts && lenB ts))))))))) then
          bif (pairK rate ts (Int.toNat i)).1 then some (.ret, S14o no rate ts fl true i (pairK rate ts (Int.toNat i)).2.1 len i) else some (.n, S14o no rate ts fl false 0 0 len (w64 (i + 1)))
        else none
      else none
    else some (.exit 0, S14o no rate ts fl false 0 0 len i) := by kernel_rfl
noncomputable def l14o : St → Option (Tr (Ex × St))
  | ⟨[(1, .p 0 0), (2, .p 1 0), (3, .b bb), (4, .i .i64 0), (16, .ls [.i .i64, .i .i64, .i .i64, .i .i64] ts fl), (17, .i .i64 len), (18, .i .i64 i)], [.c 24 [.i .i64 no, .i .i64 rate, .ls [.i .i64, .i .i64, .i .i64, .i .i64] ts' fl'], .c 28 [.i .i64 u, .i .i64 v]], []⟩ =>
    some (.test (eqB bb (false) && (eqI u (0) && (eqI v (0) && (eqI len (ts.length) && (eqI i (0) && (eqT ts' ts && (eqB fl' fl && ((okRate rate) && ((allOk ts) && (lenB ts))))))))))
    (.test (upL (σ := Unit) (fun i _ => (pairK rate ts i).1) (fun _ s => s) (ts.length) (0) (())).1
      (.ok (.ret, ((fun i s => S14o no rate ts fl true i (pairK rate ts i).2.1 ts.length i : Nat → Unit → St)) (upL (σ := Unit) (fun i _ => (pairK rate ts i).1) (fun _ s => s) (ts.length) (0) (())).2.1 (upL (σ := Unit) (fun i _ => (pairK rate ts i).1) (fun _ s => s) (ts.length) (0) (())).2.2))
      (.ok (.exit 0, ((fun i s => S14o no rate ts fl false 0 0 ts.length i : Nat → Unit → St)) (upL (σ := Unit) (fun i _ => (pairK rate ts i).1) (fun _ s => s) (ts.length) (0) (())).2.1 (upL (σ := Unit) (fun i _ => (pairK rate ts i).1) (fun _ s => s) (ts.length) (0) (())).2.2)))
    .fail)
  | _ => none
theorem lrun14o (h : HooksOK P X noHooks) (no : Int) (rate : Int) (ts : List Test) (fl : Bool) (p0 : (okRate rate) = true) (p1 : (allOk ts) = true) (p2 : (lenB ts) = true) (e : Ex) (st' : St)
    (ht : (Tr.get (.test (upL (σ := Unit) (fun i _ => (pairK rate ts i).1) (fun _ s => s) (ts.length) (0) (())).1
      (.ok (.ret, ((fun i s => S14o no rate ts fl true i (pairK rate ts i).2.1 ts.length i : Nat → Unit → St)) (upL (σ := Unit) (fun i _ => (pairK rate ts i).1) (fun _ s => s) (ts.length) (0) (())).2.1 (upL (σ := Unit) (fun i _ => (pairK rate ts i).1) (fun _ s => s) (ts.length) (0) (())).2.2))
      (.ok (.exit 0, ((fun i s => S14o no rate ts fl false 0 0 ts.length i : Nat → Unit → St)) (upL (σ := Unit) (fun i _ => (pairK rate ts i).1) (fun _ s => s) (ts.length) (0) (())).2.1 (upL (σ := Unit) (fun i _ => (pairK rate ts i).1) (fun _ s => s) (ts.length) (0) (())).2.2)))) = some (e, st')) : LoopV P X 14 5 (S14o no rate ts fl (false) (0) (0) (ts.length) (0)) e st' := by
  refine LoopV.run (H5_ok h) (σ := Unit) (n := ts.length) (stop := fun i _ => (pairK rate ts i).1) (step := fun _ s => s) (e1 := .ret) (e2 := .exit 0) (st := (fun i s => S14o no rate ts fl false 0 0 ts.length i : Nat → Unit → St)) (s1 := (fun i s => S14o no rate ts fl true i (pairK rate ts i).2.1 ts.length i : Nat → Unit → St)) (s2 := (fun i s => S14o no rate ts fl false 0 0 ts.length i : Nat → Unit → St)) (fun _ _ => True)
    (fun i s hinv hi hs => ?_) (by simp) (fun i s hinv hi hs => ?_) (fun s hinv => ?_) (by simp) (ts.length) (0) (()) (by omega) ?_ e st' ht

  · have hlen := lenB_s.1 p2
    rw [r14o, cond_pos (by simpa using hi), cond_pos (inB (by omega) (by omega)), Int.toNat_natCast, cond_pos (by simp [eqI_s, eqT_s, eqB_s, p0, p1, p2, hi, allOk_at p1 hi, natS (show i ≤ 2000000000 by omega)]), cond_pos hs]
  · have hlen := lenB_s.1 p2
    refine ⟨?_, trivial⟩
    rw [r14o, cond_pos (by simpa using hi), cond_pos (inB (by omega) (by omega)), Int.toNat_natCast, cond_pos (by simp [eqI_s, eqT_s, eqB_s, p0, p1, p2, hi, allOk_at p1 hi, natS (show i ≤ 2000000000 by omega)]), cond_neg hs, natS (by omega)]
  · rw [r14o, cond_neg (by simp)]
  · trivial
theorem lok14o (h : HooksOK P X noHooks) : ∀ st t e st', l14o st = some t → t.get = some (e, st') → LoopV P X 14 5 st e st' := by
  intro st t e st' hl ht
  unfold l14o at hl
  split at hl
  case h_2 => cases hl
  rename_i bb ts fl len i no rate ts' fl' u v
  cases hl
  replace ht := ht
  have hc : (eqB bb (false) && (eqI u (0) && (eqI v (0) && (eqI len (ts.length) && (eqI i (0) && (eqT ts' ts && (eqB fl' fl && ((okRate rate) && ((allOk ts) && (lenB ts)))))))))) = true := by
    cases hc : (eqB bb (false) && (eqI u (0) && (eqI v (0) && (eqI len (ts.length) && (eqI i (0) && (eqT ts' ts && (eqB fl' fl && ((okRate rate) && ((allOk ts) && (lenB ts)))))))))) with
    | true => rfl
    | false => rw [hc] at ht; cases ht
  rw [hc] at ht
  simp only [Bool.and_eq_true, eqI_s] at hc
  obtain ⟨q_bb, rfl, rfl, rfl, rfl, q_tsx, q_flx, p0, p1, p2⟩ := hc
  obtain rfl := eqB_s.1 q_bb
  obtain rfl := eqT_s.1 q_tsx
  obtain rfl := eqB_s.1 q_flx
  exact lrun14o h _ _ _ _ p0 p1 p2 e st' ht
noncomputable def H6 : Hooks := H5.loop1 14 5 l14o
theorem H6_ok (h : HooksOK P X noHooks) : HooksOK P X H6 := (H5_ok h).loop1 (lok14o h)
theorem wellB_len {no rate : Int} {ts : List Test} (h : wellB no rate ts = true) : ts.length ≤ 64 := by
  unfold wellB at h
  simp only [Bool.and_eq_true, decide_eq_true_eq] at h
  exact h.2.2.2.1
theorem wellB_rate {no rate : Int} {ts : List Test} (h : wellB no rate ts = true) : okRate rate = true := by
  unfold wellB at h
  simp only [Bool.and_eq_true, decide_eq_true_eq] at h
  exact okRate_s.2 ⟨h.2.1, h.2.2.1⟩
theorem wellB_ok {no rate : Int} {ts : List Test} (h : wellB no rate ts = true) : allOk ts = true := by
  unfold wellB at h
  simp only [Bool.and_eq_true, decide_eq_true_eq, Bool.not_eq_true'] at h
  have := (upU_none _ _).1 h.2.2.2.2
  unfold allOk
  rw [List.all_eq_true]
  intro x hx
  obtain ⟨i, hi, rfl⟩ := List.getElem_of_mem hx
  have h2 := this i (by omega) (by omega)
  unfold wellStop at h2
  simp only [Bool.or_eq_false_iff, Bool.not_eq_false'] at h2
  have h3 := h2.1
  unfold ta at h3
  rwa [List.getD_eq_getElem?_getD, List.getElem?_eq_getElem hi] at h3
theorem wellB_scale {no rate : Int} {ts : List Test} (h : wellB no rate ts = true) : okScale rate ts = true := by
  unfold okScale
  rw [wellB_rate h, wellB_ok h]
  have := wellB_len h
  simp only [Bool.true_and, lenB_s]; omega
theorem okScale_s {rate : Int} {ts : List Test} : okScale rate ts = true ↔ okRate rate = true ∧ allOk ts = true ∧ lenB ts = true := by simp only [okScale, Bool.and_eq_true]
theorem e14 (no rate : Int) (ts : List Test) (fl : Bool) : evP P H6 14 [.agg [.i .i64 no, .i .i64 rate, .ls T26 ts fl]] =
    bif errB (wellB no rate ts) 11 != 0 then some (.tup [.agg [.i .i64 0, .i .i64 0], .b false, .i .i64 (errB (wellB no rate ts) 11)]) else
    bif eqB false false && (eqI 0 0 && (eqI 0 0 && (eqI (ts.length : Int) (ts.length : Int) && (eqI 0 0 && (eqT ts ts && (eqB fl fl && (okRate rate && (allOk ts && lenB ts)))))))) then
      bif (pairI rate ts).1 then some (.tup [.agg [.i .i64 ((pairI rate ts).2.1 : Nat), .i .i64 ((pairK rate ts (pairI rate ts).2.1).2.1 : Nat)], .b true, .i .i64 0]) else some (.tup [.agg [.i .i64 0, .i .i64 0], .b false, .i .i64 0])
    else none := by kernel_rfl
def apI (no rate : Int) (ts : List Test) : Int := bif apartB no rate ts then ((pairI rate ts).2.1 : Nat) else 0
def apK (no rate : Int) (ts : List Test) : Int := bif apartB no rate ts then ((pairK rate ts (pairI rate ts).2.1).2.1 : Nat) else 0
noncomputable def h14 : List V → Option (Bool × V)
  | [.agg [.i .i64 no, .i .i64 rate, .ls [.i .i64, .i .i64, .i .i64, .i .i64] ts fl]] => some (true, .tup [.agg [.i .i64 (apI no rate ts), .i .i64 (apK no rate ts)], .b (apartB no rate ts), .i .i64 (errB (wellB no rate ts) 11)])
  | _ => none
theorem okk14 (h : HooksOK P X noHooks) (no : Int) (rate : Int) (ts : List Test) (fl : Bool)  : Pure P X 14 [.agg [.i .i64 no, .i .i64 rate, .ls T26 ts fl]] (.tup [.agg [.i .i64 (apI no rate ts), .i .i64 (apK no rate ts)], .b (apartB no rate ts), .i .i64 (errB (wellB no rate ts) 11)]) := by

  refine evP_sound (H6_ok h) ((e14 no rate ts fl).trans ?_)
  unfold apI apK apartB
  cases hw : wellB no rate ts with
  | false => rfl
  | true =>
    obtain ⟨h1, h2, h3⟩ := okScale_s.1 (wellB_scale hw)
    rw [cond_neg (by rfl), cond_pos (by simp [eqI_s, eqT_s, eqB_s, h1, h2, h3])]
    cases (pairI rate ts).1 <;> rfl
theorem ok14 (h : HooksOK P X noHooks) : ∀ args v, h14 args = some (true, v) → Pure P X 14 args v := by
  intro args v hv
  unfold h14 at hv
  split at hv
  case h_2 => cases hv
  rename_i no rate ts fl
  simp only [Option.some.injEq, Prod.mk.injEq, Bool.and_eq_true, eqI_s, true_and] at hv
  subst hv
  exact okk14 h _ _ _ _ 
noncomputable def H7 : Hooks := H6.call1 14 h14
theorem H7_ok (h : HooksOK P X noHooks) : HooksOK P X H7 := (H6_ok h).call1 (ok14 h)
theorem e20 (no rate : Int) (ts : List Test) (fl : Bool) : evP P H7 20 [.agg [.i .i64 no, .i .i64 rate, .ls T26 ts fl]] =
    bif apartB no rate ts then some (.i .i64 13) else some (.i .i64 (errB (wellB no rate ts) 11)) := by kernel_rfl
noncomputable def h20 : List V → Option (Bool × V)
  | [.agg [.i .i64 no, .i .i64 rate, .ls [.i .i64, .i .i64, .i .i64, .i .i64] ts fl]] => some (true, .i .i64 (scaleE no rate ts))
  | _ => none
theorem okk20 (h : HooksOK P X noHooks) (no : Int) (rate : Int) (ts : List Test) (fl : Bool)  : Pure P X 20 [.agg [.i .i64 no, .i .i64 rate, .ls T26 ts fl]] (.i .i64 (scaleE no rate ts)) := by

  refine evP_sound (H7_ok h) ((e20 no rate ts fl).trans ?_)
  unfold apartB scaleE
  cases wellB no rate ts <;> cases (pairI rate ts).1 <;> rfl
theorem ok20 (h : HooksOK P X noHooks) : ∀ args v, h20 args = some (true, v) → Pure P X 20 args v := by
  intro args v hv
  unfold h20 at hv
  split at hv
  case h_2 => cases hv
  rename_i no rate ts fl
  simp only [Option.some.injEq, Prod.mk.injEq, Bool.and_eq_true, eqI_s, true_and] at hv
  subst hv
  exact okk20 h _ _ _ _ 
noncomputable def H8 : Hooks := H7.call1 20 h20
theorem H8_ok (h : HooksOK P X noHooks) : HooksOK P X H8 := (H7_ok h).call1 (ok20 h)
/-! drift -/
theorem wDrift {r x y on : Int} (r1 : 0 ≤ r) (r2 : r ≤ 1000) (h1 : 0 ≤ x ∧ x ≤ 1048576) (h2 : 0 ≤ on ∧ on ≤ 1048576) (h3 : -1048576 ≤ y ∧ y ≤ 1048576) :
    w64 (r * (if w64 (on - x) > w64 (x - on) then w64 (on - x) else w64 (x - on))) = r * absD x on ∧ w64 (y - r * absD x on) = y - r * absD x on ∧ w64 (y + r * absD x on) = y + r * absD x on ∧ 0 ≤ r * absD x on ∧ r * absD x on ≤ 4194304000 := by
  have hb : 0 ≤ r * absD x on ∧ r * absD x on ≤ 4194304000 := mul_bnd r1 r2 (by unfold absD; omega) (by unfold absD; omega)
  rw [wMax (x := x - on) (y := on - x) (by omega) (by omega) (by omega) (by omega)]
  have e : r * max (x - on) (on - x) = r * absD x on := rfl
  rw [e]
  exact ⟨w64S (by omega) (by omega), w64S (by omega) (by omega), w64S (by omega) (by omega), hb⟩
def S77 (no : Int) (rate : Int) (ts : List Test) (fl : Bool) (on : Int) (known : Int) (lo : Int) (hi : Int) (len : Int) (i : Int) : St :=
  ⟨[(1, .i .i64 on), (2, .i .i64 known), (3, .p 0 0), (6, .p 1 0), (7, .p 2 0), (12, .ls T26 ts fl), (13, .i .i64 len), (14, .i .i64 i)], [.c 24 [.i .i64 no, .i .i64 rate, .ls T26 ts fl], .c 103 [.i .i64 0, .i .i64 0], .c 103 [.i .i64 lo, .i .i64 hi]], []⟩
noncomputable def H8d : Hooks := deepen P H8 3
theorem H8d_ok {X : Fz → Prop} (h : HooksOK P X noHooks) : HooksOK P X H8d := deepen_ok (H8_ok h) 3
theorem r77 (no rate : Int) (ts : List Test) (fl : Bool) (on known lo hi len i : Int) : evRound P H8d 77 3 (S77 no rate ts fl on known lo hi len i) =
    bif decide (i < len) then
      bif decide (0 ≤ i) && decide (i < (ts.length : Int)) then
        bif decide ((ta ts (Int.toNat i)).2.1 ≤ known) then some (.n, S77 no rate ts fl on known
           (if w64 ((ta ts (Int.toNat i)).2.2.1 - w64 (rate * (if w64 (on - (ta ts (Int.toNat i)).1) > w64 ((ta ts (Int.toNat i)).1 - on) then w64 (on - (ta ts (Int.toNat i)).1) else w64 ((ta ts (Int.toNat i)).1 - on)))) > lo then w64 ((ta ts (Int.toNat i)).2.2.1 - w64 (rate * (if w64 (on - (ta ts (Int.toNat i)).1) > w64 ((ta ts (Int.toNat i)).1 - on) then w64 (on - (ta ts (Int.toNat i)).1) else w64 ((ta ts (Int.toNat i)).1 - on)))) else lo)
           (if w64 ((ta ts (Int.toNat i)).2.2.2.1 + w64 (rate * (if w64 (on - (ta ts (Int.toNat i)).1) > w64 ((ta ts (Int.toNat i)).1 - on) then w64 (on - (ta ts (Int.toNat i)).1) else w64 ((ta ts (Int.toNat i)).1 - on)))) < hi then w64 ((ta ts (Int.toNat i)).2.2.2.1 + w64 (rate * (if w64 (on - (ta ts (Int.toNat i)).1) > w64 ((ta ts (Int.toNat i)).1 - on) then w64 (on - (ta ts (Int.toNat i)).1) else w64 ((ta ts (Int.toNat i)).1 - on)))) else hi)
           len (w64 (i + 1)))
        else some (.n, S77 no rate ts fl on known lo hi len (w64 (i + 1)))
      else none
    else some (.exit 0, S77 no rate ts fl on known lo hi len i) := by kernel_rfl
noncomputable def l77 : St → Option (Tr (Ex × St))
  | ⟨[(1, .i .i64 on), (2, .i .i64 known), (3, .p 0 0), (6, .p 1 0), (7, .p 2 0), (12, .ls [.i .i64, .i .i64, .i .i64, .i .i64] ts fl), (13, .i .i64 len), (14, .i .i64 i)], [.c 24 [.i .i64 no, .i .i64 rate, .ls [.i .i64, .i .i64, .i .i64, .i .i64] ts' fl'], .c 103 [.i .i64 0, .i .i64 0], .c 103 [.i .i64 lo, .i .i64 hi]], []⟩ =>
    some (.test (eqI lo (-1048576) && (eqI hi (1048576) && (eqI len (ts.length) && (eqI i (0) && (eqT ts' ts && (eqB fl' fl && ((okScale rate ts) && (dayB on))))))))
    (.ok (.exit 0, ((fun i s => S77 no rate ts fl on known s.1 s.2 ts.length i : Nat → Int × Int → St)) (upL (σ := Int × Int) (fun _ _ => false) (driftStep rate on known ts) (ts.length) (0) ((-1048576, 1048576))).2.1 (upL (σ := Int × Int) (fun _ _ => false) (driftStep rate on known ts) (ts.length) (0) ((-1048576, 1048576))).2.2))
    .fail)
  | _ => none
theorem lrun77 (h : HooksOK P X noHooks) (no : Int) (rate : Int) (ts : List Test) (fl : Bool) (on : Int) (known : Int) (p0 : (okScale rate ts) = true) (p1 : (dayB on) = true) (e : Ex) (st' : St)
    (ht : (Tr.get (.ok (.exit 0, ((fun i s => S77 no rate ts fl on known s.1 s.2 ts.length i : Nat → Int × Int → St)) (upL (σ := Int × Int) (fun _ _ => false) (driftStep rate on known ts) (ts.length) (0) ((-1048576, 1048576))).2.1 (upL (σ := Int × Int) (fun _ _ => false) (driftStep rate on known ts) (ts.length) (0) ((-1048576, 1048576))).2.2))) = some (e, st')) : LoopV P X 77 3 (S77 no rate ts fl on known (-1048576) (1048576) (ts.length) (0)) e st' := by
  refine LoopV.run (H8d_ok h) (σ := Int × Int) (n := ts.length) (stop := fun _ _ => false) (step := driftStep rate on known ts) (e1 := .ret) (e2 := .exit 0) (st := (fun i s => S77 no rate ts fl on known s.1 s.2 ts.length i : Nat → Int × Int → St)) (s1 := (fun i s => S77 no rate ts fl on known s.1 s.2 ts.length i : Nat → Int × Int → St)) (s2 := (fun i s => S77 no rate ts fl on known s.1 s.2 ts.length i : Nat → Int × Int → St)) (fun _ _ => True)
    (fun i s hinv hi hs => ?_) (by simp) (fun i s hinv hi hs => ?_) (fun s hinv => ?_) (by simp) (ts.length) (0) ((-1048576, 1048576)) (by omega) ?_ e st' (by rw [upF]; exact ht)

  · cases hs
  · obtain ⟨q1, q2, q3⟩ := okScale_s.1 p0
    have hlen := lenB_s.1 q3
    refine ⟨?_, trivial⟩
    rw [r77, cond_pos (by simpa using hi), cond_pos (inB (by omega) (by omega)), Int.toNat_natCast, natS (by omega)]
    obtain ⟨t1, _, t3, t4, t5⟩ := okTest_s.1 (allOk_at q2 hi)
    have hon : 0 ≤ on ∧ on ≤ 1048576 := by simpa [dayB] using p1
    obtain ⟨r1, r2⟩ := okRate_s.1 q1
    obtain ⟨w1, w2, _, b1, b2⟩ := wDrift r1 r2 t1 hon (y := (ta ts i).2.2.1) ⟨by omega, by omega⟩
    obtain ⟨_, _, w3, _, _⟩ := wDrift r1 r2 t1 hon (y := (ta ts i).2.2.2.1) ⟨by omega, by omega⟩
    rw [w1, w2, w3]
    unfold driftStep
    by_cases hk : (ta ts i).2.1 ≤ known
    · rw [cond_pos (by simpa using hk), cond_pos (by simpa using hk)]
      have e1 : (if (ta ts i).2.2.1 - rate * absD (ta ts i).1 on > s.1 then (ta ts i).2.2.1 - rate * absD (ta ts i).1 on else s.1) = max s.1 ((ta ts i).2.2.1 - rate * absD (ta ts i).1 on) := by split <;> omega
      have e2 : (if (ta ts i).2.2.2.1 + rate * absD (ta ts i).1 on < s.2 then (ta ts i).2.2.2.1 + rate * absD (ta ts i).1 on else s.2) = min s.2 ((ta ts i).2.2.2.1 + rate * absD (ta ts i).1 on) := by split <;> omega
      rw [e1, e2]
    · rw [cond_neg (by simpa using hk), cond_neg (by simpa using hk)]
  · rw [r77, cond_neg (by simp)]
  · trivial
theorem lok77 (h : HooksOK P X noHooks) : ∀ st t e st', l77 st = some t → t.get = some (e, st') → LoopV P X 77 3 st e st' := by
  intro st t e st' hl ht
  unfold l77 at hl
  split at hl
  case h_2 => cases hl
  rename_i on known ts fl len i no rate ts' fl' lo hi
  cases hl
  replace ht := ht
  have hc : (eqI lo (-1048576) && (eqI hi (1048576) && (eqI len (ts.length) && (eqI i (0) && (eqT ts' ts && (eqB fl' fl && ((okScale rate ts) && (dayB on)))))))) = true := by
    cases hc : (eqI lo (-1048576) && (eqI hi (1048576) && (eqI len (ts.length) && (eqI i (0) && (eqT ts' ts && (eqB fl' fl && ((okScale rate ts) && (dayB on)))))))) with
    | true => rfl
    | false => rw [hc] at ht; cases ht
  rw [hc] at ht
  simp only [Bool.and_eq_true, eqI_s] at hc
  obtain ⟨rfl, rfl, rfl, rfl, q_tsx, q_flx, p0, p1⟩ := hc
  obtain rfl := eqT_s.1 q_tsx
  obtain rfl := eqB_s.1 q_flx
  exact lrun77 h _ _ _ _ _ _ p0 p1 e st' ht
noncomputable def H9 : Hooks := H8.loop1 77 3 l77
theorem H9_ok (h : HooksOK P X noHooks) : HooksOK P X H9 := (H8_ok h).loop1 (lok77 h)
theorem e77 (no rate : Int) (ts : List Test) (fl : Bool) (on known : Int) : evP P (deepen P H9 3) 77 [.agg [.i .i64 no, .i .i64 rate, .ls T26 ts fl], .i .i64 on, .i .i64 known] =
    bif eqI (-1048576) (-1048576) && (eqI 1048576 1048576 && (eqI (ts.length : Int) (ts.length : Int) && (eqI 0 0 && (eqT ts ts && (eqB fl fl && (okScale rate ts && dayB on)))))) then
      some (.agg [.i .i64 (driftS rate ts on known).1, .i .i64 (driftS rate ts on known).2])
    else none := by kernel_rfl
noncomputable def h77 : List V → Option (Bool × V)
  | [.agg [.i .i64 no, .i .i64 rate, .ls [.i .i64, .i .i64, .i .i64, .i .i64] ts fl], .i .i64 on, .i .i64 known] => some (((okScale rate ts) && (dayB on)), .agg [.i .i64 (driftS rate ts on known).1, .i .i64 (driftS rate ts on known).2])
  | _ => none
theorem okk77 (h : HooksOK P X noHooks) (no : Int) (rate : Int) (ts : List Test) (fl : Bool) (on : Int) (known : Int) (p0 : (okScale rate ts) = true) (p1 : (dayB on) = true) : Pure P X 77 [.agg [.i .i64 no, .i .i64 rate, .ls T26 ts fl], .i .i64 on, .i .i64 known] (.agg [.i .i64 (driftS rate ts on known).1, .i .i64 (driftS rate ts on known).2]) := by

  refine evP_sound (deepen_ok (H9_ok h) 3) ((e77 no rate ts fl on known).trans ?_)
  rw [cond_pos (by simp [eqI_s, eqT_s, eqB_s, p0, p1])]
theorem ok77 (h : HooksOK P X noHooks) : ∀ args v, h77 args = some (true, v) → Pure P X 77 args v := by
  intro args v hv
  unfold h77 at hv
  split at hv
  case h_2 => cases hv
  rename_i no rate ts fl on known
  simp only [Option.some.injEq, Prod.mk.injEq, Bool.and_eq_true, eqI_s, true_and] at hv
  obtain ⟨⟨p0, p1⟩, rfl⟩ := hv
  exact okk77 h _ _ _ _ _ _ p0 p1
noncomputable def H10 : Hooks := H9.call1 77 h77
theorem H10_ok (h : HooksOK P X noHooks) : HooksOK P X H10 := (H9_ok h).call1 (ok77 h)
end Go.Mini.Co
end
section
set_option linter.unusedVariables false
set_option linter.unusedSimpArgs false
set_option maxRecDepth 100000
namespace Go.Mini.Co
open Go Go.Mini
variable {X : Fz → Prop}
theorem upL_inv {σ : Type} {stop : Nat → σ → Bool} {step : Nat → σ → σ} (I : σ → Prop) : ∀ (k i : Nat) (s : σ), I s → (∀ j s, i ≤ j → j < i + k → I s → I (step j s)) → I (upL stop step k i s).2.2
  | 0, _, _, h, _ => h
  | k + 1, i, s, h, hs => by
    simp only [upL]
    cases stop i s with
    | true => exact h
    | false => exact upL_inv I k (i + 1) _ (hs i s (by omega) (by omega) h) (fun j s h1 h2 => hs j s (by omega) (by omega))
theorem drift_bnd {rate on known : Int} {ts : List Test} (h : okScale rate ts = true) : -1048576 ≤ (driftS rate ts on known).1 ∧ (driftS rate ts on known).1 ≤ 1048576 ∧ -1048576 ≤ (driftS rate ts on known).2 ∧ (driftS rate ts on known).2 ≤ 1048576 := by
  obtain ⟨q1, q2, q3⟩ := okScale_s.1 h
  obtain ⟨r1, r2⟩ := okRate_s.1 q1
  unfold driftS
  refine upL_inv (fun s : Int × Int => -1048576 ≤ s.1 ∧ s.1 ≤ 1048576 ∧ -1048576 ≤ s.2 ∧ s.2 ≤ 1048576) _ _ _ (by decide) (fun j s h1 h2 hI => ?_)
  unfold driftStep
  cases decide ((ta ts j).2.1 ≤ known) with
  | false => exact hI
  | true =>
    obtain ⟨t1, _, t3, t4, t5⟩ := okTest_s.1 (allOk_at q2 (show j < ts.length by omega))
    have : 0 ≤ rate * absD (ta ts j).1 on := Int.mul_nonneg r1 (by unfold absD; omega)
    simp only [cond_true]
    omega
/-! turn -/
theorem e79 (no rate a b known : Int) (ts : List Test) (fl : Bool) : evP P (deepen P H10 3) 79 [.agg [.i .i64 no, .i .i64 rate, .ls T26 ts fl], .i .i64 a, .i .i64 b, .i .i64 known] =
    bif okScale rate ts && dayB a then
      bif okScale rate ts && dayB b then some (.agg [.i .i64 (if w64 (0 - w64 (rate * (if w64 (b - a) > w64 (a - b) then w64 (b - a) else w64 (a - b)))) > w64 ((driftS rate ts b known).1 - (driftS rate ts a known).2) then w64 (0 - w64 (rate * (if w64 (b - a) > w64 (a - b) then w64 (b - a) else w64 (a - b)))) else w64 ((driftS rate ts b known).1 - (driftS rate ts a known).2)),
          .i .i64 (if w64 (0 + w64 (rate * (if w64 (b - a) > w64 (a - b) then w64 (b - a) else w64 (a - b)))) < w64 ((driftS rate ts b known).2 - (driftS rate ts a known).1) then w64 (0 + w64 (rate * (if w64 (b - a) > w64 (a - b) then w64 (b - a) else w64 (a - b)))) else w64 ((driftS rate ts b known).2 - (driftS rate ts a known).1))])
      else none
    else none := by kernel_rfl
noncomputable def h79 : List V → Option (Bool × V)
  | [.agg [.i .i64 no, .i .i64 rate, .ls [.i .i64, .i .i64, .i .i64, .i .i64] ts fl], .i .i64 a, .i .i64 b, .i .i64 known] => some (((okScale rate ts) && ((dayB a) && (dayB b))), .agg [.i .i64 (turnS rate ts a b known).1, .i .i64 (turnS rate ts a b known).2])
  | _ => none
theorem okk79 (h : HooksOK P X noHooks) (no : Int) (rate : Int) (ts : List Test) (fl : Bool) (a : Int) (b : Int) (known : Int) (p0 : (okScale rate ts) = true) (p1 : (dayB a) = true) (p2 : (dayB b) = true) : Pure P X 79 [.agg [.i .i64 no, .i .i64 rate, .ls T26 ts fl], .i .i64 a, .i .i64 b, .i .i64 known] (.agg [.i .i64 (turnS rate ts a b known).1, .i .i64 (turnS rate ts a b known).2]) := by

  obtain ⟨q1, q2, q3⟩ := okScale_s.1 p0
  obtain ⟨r1, r2⟩ := okRate_s.1 q1
  have ha : 0 ≤ a ∧ a ≤ 1048576 := by simpa [dayB] using p1
  have hb : 0 ≤ b ∧ b ≤ 1048576 := by simpa [dayB] using p2
  obtain ⟨w1, w2, w3, b1, b2⟩ := wDrift (y := 0) r1 r2 ha hb (by decide)
  have d1 := drift_bnd (on := a) (known := known) p0
  have d2 := drift_bnd (on := b) (known := known) p0
  refine evP_sound (deepen_ok (H10_ok h) 3) ((e79 no rate a b known ts fl).trans ?_)
  rw [cond_pos (by rw [p0, p1]; rfl), cond_pos (by rw [p0, p2]; rfl), w1, w2, w3, w64S (n := (driftS rate ts b known).1 - (driftS rate ts a known).2) (by omega) (by omega), w64S (n := (driftS rate ts b known).2 - (driftS rate ts a known).1) (by omega) (by omega)]
  unfold turnS
  have e1 : (if 0 - rate * absD a b > (driftS rate ts b known).1 - (driftS rate ts a known).2 then 0 - rate * absD a b else (driftS rate ts b known).1 - (driftS rate ts a known).2) = max ((driftS rate ts b known).1 - (driftS rate ts a known).2) (-(rate * absD a b)) := by split <;> omega
  have e2 : (if 0 + rate * absD a b < (driftS rate ts b known).2 - (driftS rate ts a known).1 then 0 + rate * absD a b else (driftS rate ts b known).2 - (driftS rate ts a known).1) = min ((driftS rate ts b known).2 - (driftS rate ts a known).1) (rate * absD a b) := by split <;> omega
  rw [e1, e2]
theorem ok79 (h : HooksOK P X noHooks) : ∀ args v, h79 args = some (true, v) → Pure P X 79 args v := by
  intro args v hv
  unfold h79 at hv
  split at hv
  case h_2 => cases hv
  rename_i no rate ts fl a b known
  simp only [Option.some.injEq, Prod.mk.injEq, Bool.and_eq_true, eqI_s, true_and] at hv
  obtain ⟨⟨p0, p1, p2⟩, rfl⟩ := hv
  exact okk79 h _ _ _ _ _ _ _ p0 p1 p2
noncomputable def H11 : Hooks := H10.call1 79 h79
theorem H11_ok (h : HooksOK P X noHooks) : HooksOK P X H11 := (H10_ok h).call1 (ok79 h)
/-! ask -/
def S76 (no : Int) (rate : Int) (ts : List Test) (fl : Bool) (r : Int) (l : List (Int × Unit)) (lf : Bool) (len : Int) (i : Int) : St :=
  ⟨[(4, .i .i64 r), (13, .ls T3 l lf), (14, .i .i64 len), (15, .i .i64 i)], [.c 24 [.i .i64 no, .i .i64 rate, .ls T26 ts fl]], []⟩
theorem r76 (no rate : Int) (ts : List Test) (fl : Bool) (l : List (Int × Unit)) (lf : Bool) (len i : Int) : evRound P H11 76 5 (S76 no rate ts fl 0 l lf len i) =
    bif decide (i < len) then
      bif decide (0 ≤ i) && decide (i < (l.length : Int)) then
        bif !dayB (ra l (Int.toNat i)).1 then some (.ret, S76 no rate ts fl 1 l lf len i) else some (.n, S76 no rate ts fl 0 l lf len (w64 (i + 1)))
      else none
    else some (.exit 0, S76 no rate ts fl 0 l lf len i) := by kernel_rfl
noncomputable def l76 : St → Option (Tr (Ex × St))
  | ⟨[(4, .i .i64 r), (13, .ls [.i .i64] l lf), (14, .i .i64 len), (15, .i .i64 i)], [.c 24 [.i .i64 no, .i .i64 rate, .ls [.i .i64, .i .i64, .i .i64, .i .i64] ts fl]], []⟩ =>
    some (.test (eqI r (0) && (eqI len (l.length) && (eqI i (0) && (lenB l))))
    (.test (upL (σ := Unit) (fun i _ => !dayB (ra l i).1) (fun _ s => s) (l.length) (0) (())).1
      (.ok (.ret, ((fun i s => S76 no rate ts fl 1 l lf l.length i : Nat → Unit → St)) (upL (σ := Unit) (fun i _ => !dayB (ra l i).1) (fun _ s => s) (l.length) (0) (())).2.1 (upL (σ := Unit) (fun i _ => !dayB (ra l i).1) (fun _ s => s) (l.length) (0) (())).2.2))
      (.ok (.exit 0, ((fun i s => S76 no rate ts fl 0 l lf l.length i : Nat → Unit → St)) (upL (σ := Unit) (fun i _ => !dayB (ra l i).1) (fun _ s => s) (l.length) (0) (())).2.1 (upL (σ := Unit) (fun i _ => !dayB (ra l i).1) (fun _ s => s) (l.length) (0) (())).2.2)))
    .fail)
  | _ => none
theorem lrun76 (h : HooksOK P X noHooks) (no : Int) (rate : Int) (ts : List Test) (fl : Bool) (l : List (Int × Unit)) (lf : Bool) (p0 : (lenB l) = true) (e : Ex) (st' : St)
    (ht : (Tr.get (.test (upL (σ := Unit) (fun i _ => !dayB (ra l i).1) (fun _ s => s) (l.length) (0) (())).1
      (.ok (.ret, ((fun i s => S76 no rate ts fl 1 l lf l.length i : Nat → Unit → St)) (upL (σ := Unit) (fun i _ => !dayB (ra l i).1) (fun _ s => s) (l.length) (0) (())).2.1 (upL (σ := Unit) (fun i _ => !dayB (ra l i).1) (fun _ s => s) (l.length) (0) (())).2.2))
      (.ok (.exit 0, ((fun i s => S76 no rate ts fl 0 l lf l.length i : Nat → Unit → St)) (upL (σ := Unit) (fun i _ => !dayB (ra l i).1) (fun _ s => s) (l.length) (0) (())).2.1 (upL (σ := Unit) (fun i _ => !dayB (ra l i).1) (fun _ s => s) (l.length) (0) (())).2.2)))) = some (e, st')) : LoopV P X 76 5 (S76 no rate ts fl (0) l lf (l.length) (0)) e st' := by
  refine LoopV.run (H11_ok h) (σ := Unit) (n := l.length) (stop := fun i _ => !dayB (ra l i).1) (step := fun _ s => s) (e1 := .ret) (e2 := .exit 0) (st := (fun i s => S76 no rate ts fl 0 l lf l.length i : Nat → Unit → St)) (s1 := (fun i s => S76 no rate ts fl 1 l lf l.length i : Nat → Unit → St)) (s2 := (fun i s => S76 no rate ts fl 0 l lf l.length i : Nat → Unit → St)) (fun _ _ => True)
    (fun i s hinv hi hs => ?_) (by simp) (fun i s hinv hi hs => ?_) (fun s hinv => ?_) (by simp) (l.length) (0) (()) (by omega) ?_ e st' ht

  · have hlen := lenB_s.1 p0
    rw [r76, cond_pos (by simpa using hi), cond_pos (inB (by omega) (by omega)), Int.toNat_natCast, cond_pos hs]
  · have hlen := lenB_s.1 p0
    refine ⟨?_, trivial⟩
    rw [r76, cond_pos (by simpa using hi), cond_pos (inB (by omega) (by omega)), Int.toNat_natCast, cond_neg hs, natS (by omega)]
  · rw [r76, cond_neg (by simp)]
  · trivial
theorem lok76 (h : HooksOK P X noHooks) : ∀ st t e st', l76 st = some t → t.get = some (e, st') → LoopV P X 76 5 st e st' := by
  intro st t e st' hl ht
  unfold l76 at hl
  split at hl
  case h_2 => cases hl
  rename_i r l lf len i no rate ts fl
  cases hl
  replace ht := ht
  have hc : (eqI r (0) && (eqI len (l.length) && (eqI i (0) && (lenB l)))) = true := by
    cases hc : (eqI r (0) && (eqI len (l.length) && (eqI i (0) && (lenB l)))) with
    | true => rfl
    | false => rw [hc] at ht; cases ht
  rw [hc] at ht
  simp only [Bool.and_eq_true, eqI_s] at hc
  obtain ⟨rfl, rfl, rfl, p0⟩ := hc
  exact lrun76 h _ _ _ _ _ _ p0 e st' ht
noncomputable def H12 : Hooks := H11.loop1 76 5 l76
theorem H12_ok (h : HooksOK P X noHooks) : HooksOK P X H12 := (H11_ok h).loop1 (lok76 h)
theorem e76 (no rate : Int) (ts : List Test) (fl : Bool) (l : List (Int × Unit)) (lf : Bool) : evP P H12 76 [.agg [.i .i64 no, .i .i64 rate, .ls T26 ts fl], .ls T3 l lf] =
    bif scaleE no rate ts != 0 then some (.i .i64 (scaleE no rate ts)) else
    bif eqI 0 0 && (eqI (l.length : Int) (l.length : Int) && (eqI 0 0 && lenB l)) then
      bif (daysU l).1 then some (.i .i64 1) else some (.i .i64 0)
    else none := by kernel_rfl
theorem neq0 (n : Int) : (n != 0) = !eqI n 0 := by
  unfold eqI
  by_cases h : n = 0 <;> simp [h]
noncomputable def h76 : List V → Option (Bool × V)
  | [.agg [.i .i64 no, .i .i64 rate, .ls [.i .i64, .i .i64, .i .i64, .i .i64] ts fl], .ls [.i .i64] l lf] => some ((lenB l), .i .i64 (askE no rate ts l))
  | _ => none
theorem okk76 (h : HooksOK P X noHooks) (no : Int) (rate : Int) (ts : List Test) (fl : Bool) (l : List (Int × Unit)) (lf : Bool) (p0 : (lenB l) = true) : Pure P X 76 [.agg [.i .i64 no, .i .i64 rate, .ls T26 ts fl], .ls T3 l lf] (.i .i64 (askE no rate ts l)) := by

  refine evP_sound (H12_ok h) ((e76 no rate ts fl l lf).trans ?_)
  unfold askE
  rw [neq0]
  cases eqI (scaleE no rate ts) 0 with
  | false => rfl
  | true =>
    rw [cond_neg (by rfl), cond_pos (by simp [eqI_s, p0])]
    cases (daysU l).1 <;> rfl
theorem ok76 (h : HooksOK P X noHooks) : ∀ args v, h76 args = some (true, v) → Pure P X 76 args v := by
  intro args v hv
  unfold h76 at hv
  split at hv
  case h_2 => cases hv
  rename_i no rate ts fl l lf
  simp only [Option.some.injEq, Prod.mk.injEq, Bool.and_eq_true, eqI_s, true_and] at hv
  obtain ⟨p0, rfl⟩ := hv
  exact okk76 h _ _ _ _ _ _ p0
noncomputable def H13 : Hooks := H12.call1 76 h76
theorem H13_ok (h : HooksOK P X noHooks) : HooksOK P X H13 := (H12_ok h).call1 (ok76 h)
theorem scaleE_0 {no rate : Int} {ts : List Test} (h : scaleE no rate ts = 0) : wellB no rate ts = true ∧ (pairI rate ts).1 = false := by
  unfold scaleE at h
  cases hw : wellB no rate ts with
  | false => rw [hw] at h; cases h
  | true =>
    rw [hw, cond_true] at h
    cases hp : (pairI rate ts).1 with
    | true => rw [hp] at h; cases h
    | false => exact ⟨rfl, rfl⟩
theorem daysU_none {l : List (Int × Unit)} : (daysU l).1 = false ↔ ∀ i, i < l.length → dayB (ra l i).1 = true := by
  unfold daysU
  rw [upU_none (stop := fun i => !dayB (ra l i).1)]
  simp
theorem askE_0 {no rate : Int} {ts : List Test} {l : List (Int × Unit)} (h : askE no rate ts l = 0) : scaleE no rate ts = 0 ∧ ∀ i, i < l.length → dayB (ra l i).1 = true := by
  unfold askE at h
  cases hs : eqI (scaleE no rate ts) 0 with
  | false =>
    rw [hs, cond_false] at h
    rw [h] at hs; cases hs
  | true =>
    rw [hs, cond_true] at h
    cases hd : (daysU l).1 with
    | true => rw [hd] at h; cases h
    | false => exact ⟨eqI_s.1 hs, daysU_none.1 hd⟩
theorem askE_ok {no rate : Int} {ts : List Test} {l : List (Int × Unit)} (h : askE no rate ts l = 0) : okScale rate ts = true := wellB_scale (scaleE_0 (askE_0 h).1).1
/-! Drift, Turn -/
theorem e23 (no rate a known : Int) (ts : List Test) (fl : Bool) : evP P H13 23 [.agg [.i .i64 no, .i .i64 rate, .ls T26 ts fl], .i .i64 a, .i .i64 known] =
    bif askE no rate ts [(a, ()), (known, ())] != 0 then some (.tup [.agg [.i .i64 0, .i .i64 0], .i .i64 (askE no rate ts [(a, ()), (known, ())])]) else
    bif okScale rate ts && dayB a then some (.tup [.agg [.i .i64 (driftS rate ts a known).1, .i .i64 (driftS rate ts a known).2], .i .i64 0]) else none := by kernel_rfl
noncomputable def h23 : List V → Option (Bool × V)
  | [.agg [.i .i64 no, .i .i64 rate, .ls [.i .i64, .i .i64, .i .i64, .i .i64] ts fl], .i .i64 a, .i .i64 known] => some (true, .tup [.agg [.i .i64 (spanIf (askE no rate ts [(a, ()), (known, ())]) (driftS rate ts a known).1), .i .i64 (spanIf (askE no rate ts [(a, ()), (known, ())]) (driftS rate ts a known).2)], .i .i64 (askE no rate ts [(a, ()), (known, ())])])
  | _ => none
theorem okk23 (h : HooksOK P X noHooks) (no : Int) (rate : Int) (ts : List Test) (fl : Bool) (a : Int) (known : Int)  : Pure P X 23 [.agg [.i .i64 no, .i .i64 rate, .ls T26 ts fl], .i .i64 a, .i .i64 known] (.tup [.agg [.i .i64 (spanIf (askE no rate ts [(a, ()), (known, ())]) (driftS rate ts a known).1), .i .i64 (spanIf (askE no rate ts [(a, ()), (known, ())]) (driftS rate ts a known).2)], .i .i64 (askE no rate ts [(a, ()), (known, ())])]) := by

  refine evP_sound (H13_ok h) ((e23 no rate a known ts fl).trans ?_)
  rw [neq0]
  unfold spanIf
  cases he : eqI (askE no rate ts [(a, ()), (known, ())]) 0 with
  | false => rfl
  | true =>
    have h0 := eqI_s.1 he
    rw [cond_neg (by rfl), cond_pos (by rw [askE_ok h0, show dayB a = true from (askE_0 h0).2 0 (by simp)]; rfl), h0]
    rfl
theorem ok23 (h : HooksOK P X noHooks) : ∀ args v, h23 args = some (true, v) → Pure P X 23 args v := by
  intro args v hv
  unfold h23 at hv
  split at hv
  case h_2 => cases hv
  rename_i no rate ts fl a known
  simp only [Option.some.injEq, Prod.mk.injEq, Bool.and_eq_true, eqI_s, true_and] at hv
  subst hv
  exact okk23 h _ _ _ _ _ _ 
theorem e25 (no rate a b known : Int) (ts : List Test) (fl : Bool) : evP P H13 25 [.agg [.i .i64 no, .i .i64 rate, .ls T26 ts fl], .i .i64 a, .i .i64 b, .i .i64 known] =
    bif askE no rate ts [(a, ()), (b, ()), (known, ())] != 0 then some (.tup [.agg [.i .i64 0, .i .i64 0], .i .i64 (askE no rate ts [(a, ()), (b, ()), (known, ())])]) else
    bif okScale rate ts && (dayB a && dayB b) then some (.tup [.agg [.i .i64 (turnS rate ts a b known).1, .i .i64 (turnS rate ts a b known).2], .i .i64 0]) else none := by kernel_rfl
noncomputable def h25 : List V → Option (Bool × V)
  | [.agg [.i .i64 no, .i .i64 rate, .ls [.i .i64, .i .i64, .i .i64, .i .i64] ts fl], .i .i64 a, .i .i64 b, .i .i64 known] => some (true, .tup [.agg [.i .i64 (spanIf (askE no rate ts [(a, ()), (b, ()), (known, ())]) (turnS rate ts a b known).1), .i .i64 (spanIf (askE no rate ts [(a, ()), (b, ()), (known, ())]) (turnS rate ts a b known).2)], .i .i64 (askE no rate ts [(a, ()), (b, ()), (known, ())])])
  | _ => none
theorem okk25 (h : HooksOK P X noHooks) (no : Int) (rate : Int) (ts : List Test) (fl : Bool) (a : Int) (b : Int) (known : Int)  : Pure P X 25 [.agg [.i .i64 no, .i .i64 rate, .ls T26 ts fl], .i .i64 a, .i .i64 b, .i .i64 known] (.tup [.agg [.i .i64 (spanIf (askE no rate ts [(a, ()), (b, ()), (known, ())]) (turnS rate ts a b known).1), .i .i64 (spanIf (askE no rate ts [(a, ()), (b, ()), (known, ())]) (turnS rate ts a b known).2)], .i .i64 (askE no rate ts [(a, ()), (b, ()), (known, ())])]) := by

  refine evP_sound (H13_ok h) ((e25 no rate a b known ts fl).trans ?_)
  rw [neq0]
  unfold spanIf
  cases he : eqI (askE no rate ts [(a, ()), (b, ()), (known, ())]) 0 with
  | false => rfl
  | true =>
    have h0 := eqI_s.1 he
    rw [cond_neg (by rfl), cond_pos (by rw [askE_ok h0, show dayB a = true from (askE_0 h0).2 0 (by simp), show dayB b = true from (askE_0 h0).2 1 (by simp)]; rfl), h0]
    rfl
theorem ok25 (h : HooksOK P X noHooks) : ∀ args v, h25 args = some (true, v) → Pure P X 25 args v := by
  intro args v hv
  unfold h25 at hv
  split at hv
  case h_2 => cases hv
  rename_i no rate ts fl a b known
  simp only [Option.some.injEq, Prod.mk.injEq, Bool.and_eq_true, eqI_s, true_and] at hv
  subst hv
  exact okk25 h _ _ _ _ _ _ _ 
noncomputable def H14 : Hooks := (H13.call1 23 h23).call1 25 h25
theorem H14_ok (h : HooksOK P X noHooks) : HooksOK P X H14 := ((H13_ok h).call1 (ok23 h)).call1 (ok25 h)
end Go.Mini.Co
end
section
set_option linter.unusedVariables false
set_option linter.unusedSimpArgs false
set_option maxRecDepth 100000
namespace Go.Mini.Co
open Go Go.Mini
variable {X : Fz → Prop}
/-! rising, possible, History -/
def S97 (l : List (Int × Unit)) (lf : Bool) (len : Int) (i : Int) : St :=
  ⟨[(0, .ls T3 l lf), (2, .b false), (5, .ls T3 l lf), (6, .i .i64 len), (7, .i .i64 i)], [], []⟩
theorem r97 (l : List (Int × Unit)) (lf : Bool) (len i : Int) : evRound P H14 97 2 (S97 l lf len i) =
    bif decide (i < len) then
      bif decide (0 ≤ i) && decide (i < (l.length : Int)) then
        bif !dayB (ra l (Int.toNat i)).1 then some (.ret, S97 l lf len i) else
        bif decide (i > 0) then
          bif decide (0 ≤ w64 (i - 1)) && decide (w64 (i - 1) < (l.length : Int)) then
            bif decide ((ra l (Int.toNat (w64 (i - 1)))).1 ≥ (ra l (Int.toNat i)).1) then some (.ret, S97 l lf len i) else some (.n, S97 l lf len (w64 (i + 1)))
          else none
        else some (.n, S97 l lf len (w64 (i + 1)))
      else none
    else some (.exit 0, S97 l lf len i) := by kernel_rfl
noncomputable def l97 : St → Option (Tr (Ex × St))
  | ⟨[(0, .ls [.i .i64] l lf), (2, .b false), (5, .ls [.i .i64] l' lf'), (6, .i .i64 len), (7, .i .i64 i)], [], []⟩ =>
    some (.test (eqI len (l.length) && (eqI i (0) && (eqL l' l && (eqB lf' lf && (lenB l)))))
    (.test (upL (σ := Unit) (fun i _ => riseStop l i) (fun _ s => s) (l.length) (0) (())).1
      (.ok (.ret, ((fun i s => S97 l lf l.length i : Nat → Unit → St)) (upL (σ := Unit) (fun i _ => riseStop l i) (fun _ s => s) (l.length) (0) (())).2.1 (upL (σ := Unit) (fun i _ => riseStop l i) (fun _ s => s) (l.length) (0) (())).2.2))
      (.ok (.exit 0, ((fun i s => S97 l lf l.length i : Nat → Unit → St)) (upL (σ := Unit) (fun i _ => riseStop l i) (fun _ s => s) (l.length) (0) (())).2.1 (upL (σ := Unit) (fun i _ => riseStop l i) (fun _ s => s) (l.length) (0) (())).2.2)))
    .fail)
  | _ => none
theorem lrun97 (h : HooksOK P X noHooks) (l : List (Int × Unit)) (lf : Bool) (p0 : (lenB l) = true) (e : Ex) (st' : St)
    (ht : (Tr.get (.test (upL (σ := Unit) (fun i _ => riseStop l i) (fun _ s => s) (l.length) (0) (())).1
      (.ok (.ret, ((fun i s => S97 l lf l.length i : Nat → Unit → St)) (upL (σ := Unit) (fun i _ => riseStop l i) (fun _ s => s) (l.length) (0) (())).2.1 (upL (σ := Unit) (fun i _ => riseStop l i) (fun _ s => s) (l.length) (0) (())).2.2))
      (.ok (.exit 0, ((fun i s => S97 l lf l.length i : Nat → Unit → St)) (upL (σ := Unit) (fun i _ => riseStop l i) (fun _ s => s) (l.length) (0) (())).2.1 (upL (σ := Unit) (fun i _ => riseStop l i) (fun _ s => s) (l.length) (0) (())).2.2)))) = some (e, st')) : LoopV P X 97 2 (S97 l lf (l.length) (0)) e st' := by
  refine LoopV.run (H14_ok h) (σ := Unit) (n := l.length) (stop := fun i _ => riseStop l i) (step := fun _ s => s) (e1 := .ret) (e2 := .exit 0) (st := (fun i s => S97 l lf l.length i : Nat → Unit → St)) (s1 := (fun i s => S97 l lf l.length i : Nat → Unit → St)) (s2 := (fun i s => S97 l lf l.length i : Nat → Unit → St)) (fun _ _ => True)
    (fun i s hinv hi hs => ?_) (by simp) (fun i s hinv hi hs => ?_) (fun s hinv => ?_) (by simp) (l.length) (0) (()) (by omega) ?_ e st' ht

  · have hlen := lenB_s.1 p0
    rw [r97, cond_pos (by simpa using hi), cond_pos (inB (by omega) (by omega)), Int.toNat_natCast]
    unfold riseStop at hs
    cases hd : dayB (ra l i).1 with
    | false => rw [cond_pos (by rfl)]
    | true =>
      rw [hd] at hs
      simp only [Bool.not_true, Bool.false_or, Bool.and_eq_true, decide_eq_true_eq] at hs
      rw [cond_neg (by rfl), cond_pos (by simp; omega), predS hs.1 (by omega), cond_pos (inB (by omega) (by omega)), Int.toNat_natCast, cond_pos (by simpa using hs.2)]
  · have hlen := lenB_s.1 p0
    refine ⟨?_, trivial⟩
    rw [r97, cond_pos (by simpa using hi), cond_pos (inB (by omega) (by omega)), Int.toNat_natCast, natS (by omega)]
    unfold riseStop at hs
    simp only [Bool.or_eq_false_iff, Bool.not_eq_false', Bool.and_eq_false_iff, decide_eq_false_iff_not] at hs
    obtain ⟨hd, hs⟩ := hs
    rw [hd, cond_neg (by rfl)]
    by_cases h0 : 0 < i
    · rw [cond_pos (by simpa using h0), predS h0 (by omega), cond_pos (inB (by omega) (by omega)), Int.toNat_natCast, cond_neg (by simp; omega)]
    · rw [cond_neg (by simpa using h0)]
  · rw [r97, cond_neg (by simp)]
  · trivial
theorem lok97 (h : HooksOK P X noHooks) : ∀ st t e st', l97 st = some t → t.get = some (e, st') → LoopV P X 97 2 st e st' := by
  intro st t e st' hl ht
  unfold l97 at hl
  split at hl
  case h_2 => cases hl
  rename_i l lf l' lf' len i
  cases hl
  replace ht := ht
  have hc : (eqI len (l.length) && (eqI i (0) && (eqL l' l && (eqB lf' lf && (lenB l))))) = true := by
    cases hc : (eqI len (l.length) && (eqI i (0) && (eqL l' l && (eqB lf' lf && (lenB l))))) with
    | true => rfl
    | false => rw [hc] at ht; cases ht
  rw [hc] at ht
  simp only [Bool.and_eq_true, eqI_s] at hc
  obtain ⟨rfl, rfl, q_lx, q_lfx, p0⟩ := hc
  obtain rfl := eqL_s.1 q_lx
  obtain rfl := eqB_s.1 q_lfx
  exact lrun97 h _ _ p0 e st' ht
noncomputable def H15 : Hooks := H14.loop1 97 2 l97
theorem H15_ok (h : HooksOK P X noHooks) : HooksOK P X H15 := (H14_ok h).loop1 (lok97 h)
theorem e97 (l : List (Int × Unit)) (lf : Bool) : evP P H15 97 [.ls T3 l lf] =
    bif eqI (l.length : Int) (l.length : Int) && (eqI 0 0 && (eqL l l && (eqB lf lf && lenB l))) then
      bif (riseU l).1 then some (.b false) else some (.b (decide ((l.length : Int) ≤ 64)))
    else none := by kernel_rfl
noncomputable def h97 : List V → Option (Bool × V)
  | [.ls [.i .i64] l lf] => some ((lenB l), .b (riseB l))
  | _ => none
theorem okk97 (h : HooksOK P X noHooks) (l : List (Int × Unit)) (lf : Bool) (p0 : (lenB l) = true) : Pure P X 97 [.ls T3 l lf] (.b (riseB l)) := by

  refine evP_sound (H15_ok h) ((e97 l lf).trans ?_)
  rw [cond_pos (by simp [eqI_s, eqL_s, eqB_s, p0])]
  unfold riseB
  cases (riseU l).1 with
  | true => rfl
  | false =>
    have : decide ((l.length : Int) ≤ 64) = decide (l.length ≤ 64) := by by_cases h0 : l.length ≤ 64 <;> simp [h0] <;> omega
    rw [this]; rfl
theorem ok97 (h : HooksOK P X noHooks) : ∀ args v, h97 args = some (true, v) → Pure P X 97 args v := by
  intro args v hv
  unfold h97 at hv
  split at hv
  case h_2 => cases hv
  rename_i l lf
  simp only [Option.some.injEq, Prod.mk.injEq, Bool.and_eq_true, eqI_s, true_and] at hv
  obtain ⟨p0, rfl⟩ := hv
  exact okk97 h _ _ p0
noncomputable def H16 : Hooks := H15.call1 97 h97
theorem H16_ok (h : HooksOK P X noHooks) : HooksOK P X H16 := (H15_ok h).call1 (ok97 h)
noncomputable def H16d : Hooks := deepen P H16 3
theorem H16d_ok (h : HooksOK P X noHooks) : HooksOK P X H16d := deepen_ok (H16_ok h) 3
theorem daysOk_at {l : List (Int × Unit)} (h : daysOk l = true) {i : Nat} (hi : i < l.length) : dayB (ra l i).1 = true := by
  unfold ra
  rw [List.getD_eq_getElem?_getD, List.getElem?_eq_getElem hi]
  exact List.all_eq_true.1 h _ (List.getElem_mem hi)
theorem wPoss {r x y a b : Int} (r1 : 0 ≤ r) (r2 : r ≤ 1000) (hx : -1048576 ≤ x ∧ x ≤ 1048576) (hy : -1048576 ≤ y ∧ y ≤ 1048576) (ha : 0 ≤ a ∧ a ≤ 1048576) (hb : 0 ≤ b ∧ b ≤ 1048576) :
    (!decide ((if w64 (x - y) > w64 (y - x) then w64 (x - y) else w64 (y - x)) ≤ w64 (r * w64 (a - b)))) = !decide (absD x y ≤ r * (a - b)) := by
  rw [wMax (x := y - x) (y := x - y) (by omega) (by omega) (by omega) (by omega), w64S (n := a - b) (by omega) (by omega)]
  have h1 : r * (a - b) ≤ 4194304000 ∧ -4194304000 ≤ r * (a - b) := by
    rcases Int.le_total 0 (a - b) with h | h
    · have := mul_bnd r1 r2 h (by omega); omega
    · have := mul_bnd r1 r2 (x := b - a) (by omega) (by omega)
      have e : r * (a - b) = -(r * (b - a)) := by rw [← Int.mul_neg]; congr 1; omega
      omega
  rw [w64S (by omega) (by omega)]
  have e : max (y - x) (x - y) = absD x y := by unfold absD; omega
  rw [e]
def S98 (no : Int) (rate : Int) (ts : List Test) (fl : Bool) (known : Int) (l : List (Int × Unit)) (lf : Bool) (g : List (Int × Unit)) (gf : Bool) (len : Int) (i : Int) : St :=
  ⟨[(1, .i .i64 known), (2, .ls T3 l lf), (3, .ls T3 g gf), (4, .p 0 0), (8, .b false), (12, .ls T3 l lf), (13, .i .i64 len), (14, .i .i64 i)], [.c 24 [.i .i64 no, .i .i64 rate, .ls T26 ts fl]], []⟩
theorem r98 (no rate : Int) (ts : List Test) (fl : Bool) (known : Int) (l : List (Int × Unit)) (lf : Bool) (g : List (Int × Unit)) (gf : Bool) (len i : Int) : evRound P H16d 98 2 (S98 no rate ts fl known l lf g gf len i) =
    bif decide (i < len) then
     bif decide (0 ≤ i) && decide (i < (l.length : Int)) then
      bif okScale rate ts && dayB (ra l (Int.toNat i)).1 then
       bif decide (0 ≤ i) && decide (i < (g.length : Int)) then
        bif decide ((ra g (Int.toNat i)).1 < (driftS rate ts (ra l (Int.toNat i)).1 known).1) then some (.ret, S98 no rate ts fl known l lf g gf len i) else
         bif decide (0 ≤ i) && decide (i < (g.length : Int)) then
          bif decide ((ra g (Int.toNat i)).1 > (driftS rate ts (ra l (Int.toNat i)).1 known).2) then some (.ret, S98 no rate ts fl known l lf g gf len i) else
           bif decide (i > 0) then
            bif decide (0 ≤ w64 (i - 1)) && decide (w64 (i - 1) < (g.length : Int)) then
             bif decide (0 ≤ i) && decide (i < (g.length : Int)) then
              bif decide (0 ≤ w64 (i - 1)) && decide (w64 (i - 1) < (l.length : Int)) then
               bif !decide ((if w64 ((ra g (Int.toNat i)).1 - (ra g (Int.toNat (w64 (i - 1)))).1) > w64 ((ra g (Int.toNat (w64 (i - 1)))).1 - (ra g (Int.toNat i)).1) then w64 ((ra g (Int.toNat i)).1 - (ra g (Int.toNat (w64 (i - 1)))).1) else w64 ((ra g (Int.toNat (w64 (i - 1)))).1 - (ra g (Int.toNat i)).1)) ≤ w64 (rate * w64 ((ra l (Int.toNat i)).1 - (ra l (Int.toNat (w64 (i - 1)))).1))) then some (.ret, S98 no rate ts fl known l lf g gf len i)
               else some (.n, S98 no rate ts fl known l lf g gf len (w64 (i + 1)))
              else none
             else none
            else none
           else some (.n, S98 no rate ts fl known l lf g gf len (w64 (i + 1)))
         else none
       else none
      else none
     else none
    else some (.exit 0, S98 no rate ts fl known l lf g gf len i) := by kernel_rfl
noncomputable def l98 : St → Option (Tr (Ex × St))
  | ⟨[(1, .i .i64 known), (2, .ls [.i .i64] l lf), (3, .ls [.i .i64] g gf), (4, .p 0 0), (8, .b false), (12, .ls [.i .i64] l' lf'), (13, .i .i64 len), (14, .i .i64 i)], [.c 24 [.i .i64 no, .i .i64 rate, .ls [.i .i64, .i .i64, .i .i64, .i .i64] ts fl]], []⟩ =>
    some (.test (eqI len (l.length) && (eqI i (0) && (eqL l' l && (eqB lf' lf && ((okScale rate ts) && ((daysOk l) && ((lenB l) && (sameLen l g))))))))
    (.test (upL (σ := Unit) (fun i _ => possStop rate ts known l g i) (fun _ s => s) (l.length) (0) (())).1
      (.ok (.ret, ((fun i s => S98 no rate ts fl known l lf g gf l.length i : Nat → Unit → St)) (upL (σ := Unit) (fun i _ => possStop rate ts known l g i) (fun _ s => s) (l.length) (0) (())).2.1 (upL (σ := Unit) (fun i _ => possStop rate ts known l g i) (fun _ s => s) (l.length) (0) (())).2.2))
      (.ok (.exit 0, ((fun i s => S98 no rate ts fl known l lf g gf l.length i : Nat → Unit → St)) (upL (σ := Unit) (fun i _ => possStop rate ts known l g i) (fun _ s => s) (l.length) (0) (())).2.1 (upL (σ := Unit) (fun i _ => possStop rate ts known l g i) (fun _ s => s) (l.length) (0) (())).2.2)))
    .fail)
  | _ => none
theorem lrun98 (h : HooksOK P X noHooks) (no : Int) (rate : Int) (ts : List Test) (fl : Bool) (known : Int) (l : List (Int × Unit)) (lf : Bool) (g : List (Int × Unit)) (gf : Bool) (p0 : (okScale rate ts) = true) (p1 : (daysOk l) = true) (p2 : (lenB l) = true) (p3 : (sameLen l g) = true) (e : Ex) (st' : St)
    (ht : (Tr.get (.test (upL (σ := Unit) (fun i _ => possStop rate ts known l g i) (fun _ s => s) (l.length) (0) (())).1
      (.ok (.ret, ((fun i s => S98 no rate ts fl known l lf g gf l.length i : Nat → Unit → St)) (upL (σ := Unit) (fun i _ => possStop rate ts known l g i) (fun _ s => s) (l.length) (0) (())).2.1 (upL (σ := Unit) (fun i _ => possStop rate ts known l g i) (fun _ s => s) (l.length) (0) (())).2.2))
      (.ok (.exit 0, ((fun i s => S98 no rate ts fl known l lf g gf l.length i : Nat → Unit → St)) (upL (σ := Unit) (fun i _ => possStop rate ts known l g i) (fun _ s => s) (l.length) (0) (())).2.1 (upL (σ := Unit) (fun i _ => possStop rate ts known l g i) (fun _ s => s) (l.length) (0) (())).2.2)))) = some (e, st')) : LoopV P X 98 2 (S98 no rate ts fl known l lf g gf (l.length) (0)) e st' := by
  refine LoopV.run (H16d_ok h) (σ := Unit) (n := l.length) (stop := fun i _ => possStop rate ts known l g i) (step := fun _ s => s) (e1 := .ret) (e2 := .exit 0) (st := (fun i s => S98 no rate ts fl known l lf g gf l.length i : Nat → Unit → St)) (s1 := (fun i s => S98 no rate ts fl known l lf g gf l.length i : Nat → Unit → St)) (s2 := (fun i s => S98 no rate ts fl known l lf g gf l.length i : Nat → Unit → St)) (fun i _ => 0 < i → -1048576 ≤ (ra g (i - 1)).1 ∧ (ra g (i - 1)).1 ≤ 1048576)
    (fun i s hinv hi hs => ?_) (by simp) (fun i s hinv hi hs => ?_) (fun s hinv => ?_) (by simp) (l.length) (0) (()) (by omega) ?_ e st' ht

  · have hlen := lenB_s.1 p2
    have hlg := sameLen_s.1 p3
    have hday := daysOk_at p1 hi
    rw [r98, cond_pos (by simpa using hi), cond_pos (inB (by omega) (by omega)), Int.toNat_natCast, cond_pos (by rw [p0, hday]; rfl), cond_pos (inB (by omega) (by omega))]
    unfold possStop at hs
    cases c1 : decide ((ra g i).1 < (driftS rate ts (ra l i).1 known).1) with
    | true => rw [cond_true]
    | false =>
      rw [cond_false, cond_pos (inB (by omega) (by omega))]
      cases c2 : decide ((ra g i).1 > (driftS rate ts (ra l i).1 known).2) with
      | true => rw [cond_true]
      | false =>
        rw [cond_false]
        rw [c1, c2] at hs
        simp only [Bool.false_or, Bool.and_eq_true, decide_eq_true_eq] at hs
        obtain ⟨h0, hs⟩ := hs
        have b := drift_bnd (on := (ra l i).1) (known := known) p0
        have c1 : ¬ _ := of_decide_eq_false c1
        have c2 : ¬ _ := of_decide_eq_false c2
        have hp := hinv h0
        obtain ⟨r1, r2⟩ := okRate_s.1 (okScale_s.1 p0).1
        have hd1 : 0 ≤ (ra l i).1 ∧ (ra l i).1 ≤ 1048576 := by simpa [dayB] using hday
        have hd2 : 0 ≤ (ra l (i - 1)).1 ∧ (ra l (i - 1)).1 ≤ 1048576 := by simpa [dayB] using daysOk_at p1 (show i - 1 < l.length by omega)
        rw [cond_pos (by simpa using h0), predS h0 (by omega), cond_pos (inB (by omega) (by omega)), cond_pos (inB (by omega) (by omega)), cond_pos (inB (by omega) (by omega)), Int.toNat_natCast, wPoss r1 r2 ⟨by omega, by omega⟩ hp hd1 hd2, cond_pos hs]
  · have hlen := lenB_s.1 p2
    have hlg := sameLen_s.1 p3
    have hday := daysOk_at p1 hi
    unfold possStop at hs
    simp only [Bool.or_eq_false_iff] at hs
    obtain ⟨⟨c1, c2⟩, hs⟩ := hs
    have b := drift_bnd (on := (ra l i).1) (known := known) p0
    have c1' : ¬ _ := of_decide_eq_false c1
    have c2' : ¬ _ := of_decide_eq_false c2
    refine ⟨?_, fun _ => by rw [Nat.add_sub_cancel]; exact ⟨by omega, by omega⟩⟩
    rw [r98, cond_pos (by simpa using hi), cond_pos (inB (by omega) (by omega)), Int.toNat_natCast, cond_pos (by rw [p0, hday]; rfl), cond_pos (inB (by omega) (by omega)), cond_neg c1, cond_pos (inB (by omega) (by omega)), cond_neg c2, natS (by omega)]
    by_cases h0 : 0 < i
    · have hp := hinv h0
      obtain ⟨r1, r2⟩ := okRate_s.1 (okScale_s.1 p0).1
      have hd1 : 0 ≤ (ra l i).1 ∧ (ra l i).1 ≤ 1048576 := by simpa [dayB] using hday
      have hd2 : 0 ≤ (ra l (i - 1)).1 ∧ (ra l (i - 1)).1 ≤ 1048576 := by simpa [dayB] using daysOk_at p1 (show i - 1 < l.length by omega)
      rw [show decide (0 < i) = true by simpa using h0, Bool.true_and] at hs
      rw [cond_pos (by simpa using h0), predS h0 (by omega), cond_pos (inB (by omega) (by omega)), cond_pos (inB (by omega) (by omega)), cond_pos (inB (by omega) (by omega)), Int.toNat_natCast, wPoss r1 r2 ⟨by omega, by omega⟩ hp hd1 hd2, cond_neg hs]
    · rw [cond_neg (by simpa using h0)]
  · rw [r98, cond_neg (by simp)]
  · intro h0; omega
theorem lok98 (h : HooksOK P X noHooks) : ∀ st t e st', l98 st = some t → t.get = some (e, st') → LoopV P X 98 2 st e st' := by
  intro st t e st' hl ht
  unfold l98 at hl
  split at hl
  case h_2 => cases hl
  rename_i known l lf g gf l' lf' len i no rate ts fl
  cases hl
  replace ht := ht
  have hc : (eqI len (l.length) && (eqI i (0) && (eqL l' l && (eqB lf' lf && ((okScale rate ts) && ((daysOk l) && ((lenB l) && (sameLen l g)))))))) = true := by
    cases hc : (eqI len (l.length) && (eqI i (0) && (eqL l' l && (eqB lf' lf && ((okScale rate ts) && ((daysOk l) && ((lenB l) && (sameLen l g)))))))) with
    | true => rfl
    | false => rw [hc] at ht; cases ht
  rw [hc] at ht
  simp only [Bool.and_eq_true, eqI_s] at hc
  obtain ⟨rfl, rfl, q_lx, q_lfx, p0, p1, p2, p3⟩ := hc
  obtain rfl := eqL_s.1 q_lx
  obtain rfl := eqB_s.1 q_lfx
  exact lrun98 h _ _ _ _ _ _ _ _ _ p0 p1 p2 p3 e st' ht
noncomputable def H17 : Hooks := H16.loop1 98 2 l98
theorem H17_ok (h : HooksOK P X noHooks) : HooksOK P X H17 := (H16_ok h).loop1 (lok98 h)
theorem e98 (no rate : Int) (ts : List Test) (fl : Bool) (known : Int) (l : List (Int × Unit)) (lf : Bool) (g : List (Int × Unit)) (gf : Bool) : evP P (deepen P H17 3) 98 [.agg [.i .i64 no, .i .i64 rate, .ls T26 ts fl], .i .i64 known, .ls T3 l lf, .ls T3 g gf] =
    bif eqI (l.length : Int) (l.length : Int) && (eqI 0 0 && (eqL l l && (eqB lf lf && (okScale rate ts && (daysOk l && (lenB l && sameLen l g)))))) then
      bif (upL (σ := Unit) (fun i _ => possStop rate ts known l g i) (fun _ s => s) l.length 0 ()).1 then some (.b false) else some (.b true)
    else none := by kernel_rfl
noncomputable def h98 : List V → Option (Bool × V)
  | [.agg [.i .i64 no, .i .i64 rate, .ls [.i .i64, .i .i64, .i .i64, .i .i64] ts fl], .i .i64 known, .ls [.i .i64] l lf, .ls [.i .i64] g gf] => some (((okScale rate ts) && ((daysOk l) && ((lenB l) && (sameLen l g)))), .b (possB rate ts known l g))
  | _ => none
theorem okk98 (h : HooksOK P X noHooks) (no : Int) (rate : Int) (ts : List Test) (fl : Bool) (known : Int) (l : List (Int × Unit)) (lf : Bool) (g : List (Int × Unit)) (gf : Bool) (p0 : (okScale rate ts) = true) (p1 : (daysOk l) = true) (p2 : (lenB l) = true) (p3 : (sameLen l g) = true) : Pure P X 98 [.agg [.i .i64 no, .i .i64 rate, .ls T26 ts fl], .i .i64 known, .ls T3 l lf, .ls T3 g gf] (.b (possB rate ts known l g)) := by

  refine evP_sound (deepen_ok (H17_ok h) 3) ((e98 no rate ts fl known l lf g gf).trans ?_)
  rw [cond_pos (by simp [eqI_s, eqL_s, eqB_s, p0, p1, p2, p3])]
  unfold possB
  cases (upL (σ := Unit) (fun i _ => possStop rate ts known l g i) (fun _ s => s) l.length 0 ()).1 <;> rfl
theorem ok98 (h : HooksOK P X noHooks) : ∀ args v, h98 args = some (true, v) → Pure P X 98 args v := by
  intro args v hv
  unfold h98 at hv
  split at hv
  case h_2 => cases hv
  rename_i no rate ts fl known l lf g gf
  simp only [Option.some.injEq, Prod.mk.injEq, Bool.and_eq_true, eqI_s, true_and] at hv
  obtain ⟨⟨p0, p1, p2, p3⟩, rfl⟩ := hv
  exact okk98 h _ _ _ _ _ _ _ _ _ p0 p1 p2 p3
noncomputable def H18 : Hooks := H17.call1 98 h98
theorem H18_ok (h : HooksOK P X noHooks) : HooksOK P X H18 := (H17_ok h).call1 (ok98 h)
theorem riseB_days {l : List (Int × Unit)} (h : riseB l = true) : daysOk l = true := by
  unfold riseB at h
  simp only [Bool.and_eq_true, Bool.not_eq_true'] at h
  have h1 := (upU_none (stop := riseStop l) _ _).1 h.1
  unfold daysOk
  rw [List.all_eq_true]
  intro x hx
  obtain ⟨i, hi, rfl⟩ := List.getElem_of_mem hx
  have h2 := h1 i (by omega) (by omega)
  unfold riseStop at h2
  simp only [Bool.or_eq_false_iff, Bool.not_eq_false'] at h2
  have h3 := h2.1
  unfold ra at h3
  rwa [List.getD_eq_getElem?_getD, List.getElem?_eq_getElem hi] at h3
theorem e33 (no rate : Int) (ts : List Test) (fl : Bool) (known : Int) (l : List (Int × Unit)) (lf : Bool) (g : List (Int × Unit)) (gf : Bool) : evP P H18 33 [.agg [.i .i64 no, .i .i64 rate, .ls T26 ts fl], .i .i64 known, .ls T3 l lf, .ls T3 g gf] =
    bif askE no rate ts [(known, ())] != 0 then some (.tup [.b false, .i .i64 (askE no rate ts [(known, ())])]) else
    bif (l.length : Int) != (g.length : Int) then some (.tup [.b false, .i .i64 1]) else
    bif lenB l then
      bif !riseB l then some (.tup [.b false, .i .i64 1]) else
      bif okScale rate ts && (daysOk l && (lenB l && sameLen l g)) then some (.tup [.b (possB rate ts known l g), .i .i64 0]) else none
    else none := by kernel_rfl
noncomputable def h33 : List V → Option (Bool × V)
  | [.agg [.i .i64 no, .i .i64 rate, .ls [.i .i64, .i .i64, .i .i64, .i .i64] ts fl], .i .i64 known, .ls [.i .i64] l lf, .ls [.i .i64] g gf] => some ((lenB l), .tup [.b (histB no rate ts known l g), .i .i64 (histE no rate ts known l g)])
  | _ => none
theorem okk33 (h : HooksOK P X noHooks) (no : Int) (rate : Int) (ts : List Test) (fl : Bool) (known : Int) (l : List (Int × Unit)) (lf : Bool) (g : List (Int × Unit)) (gf : Bool) (p0 : (lenB l) = true) : Pure P X 33 [.agg [.i .i64 no, .i .i64 rate, .ls T26 ts fl], .i .i64 known, .ls T3 l lf, .ls T3 g gf] (.tup [.b (histB no rate ts known l g), .i .i64 (histE no rate ts known l g)]) := by

  refine evP_sound (H18_ok h) ((e33 no rate ts fl known l lf g gf).trans ?_)
  rw [neq0]
  unfold histB histE
  cases he : eqI (askE no rate ts [(known, ())]) 0 with
  | false =>
    simp only [cond_false, Bool.not_false, cond_true, he]
  | true =>
    have h0 := eqI_s.1 he
    have e1 : ((l.length : Int) != (g.length : Int)) = !sameLen l g := by
      unfold sameLen
      by_cases h1 : l.length = g.length
      · simp [h1]
      · simp [h1]; omega
    rw [cond_neg (by rfl), e1]
    cases hl : sameLen l g with
    | false => rfl
    | true =>
      rw [cond_neg (by rfl), cond_pos p0]
      cases hr : riseB l with
      | false => rfl
      | true =>
        rw [cond_neg (by rfl), cond_pos (by rw [askE_ok h0, riseB_days hr, p0]; rfl)]
        rfl
theorem ok33 (h : HooksOK P X noHooks) : ∀ args v, h33 args = some (true, v) → Pure P X 33 args v := by
  intro args v hv
  unfold h33 at hv
  split at hv
  case h_2 => cases hv
  rename_i no rate ts fl known l lf g gf
  simp only [Option.some.injEq, Prod.mk.injEq, Bool.and_eq_true, eqI_s, true_and] at hv
  obtain ⟨p0, rfl⟩ := hv
  exact okk33 h _ _ _ _ _ _ _ _ _ p0
noncomputable def H19 : Hooks := H18.call1 33 h33
theorem H19_ok (h : HooksOK P X noHooks) : HooksOK P X H19 := (H18_ok h).call1 (ok33 h)
end Go.Mini.Co
end
section
set_option linter.unusedVariables false
set_option linter.unusedSimpArgs false
set_option maxRecDepth 100000
namespace Go.Mini.Co
open Go Go.Mini
variable {X : Fz → Prop}
/-! CourseEnds: the closure, the loop. -/
theorem spanIf_bnd {no rate : Int} {ts : List Test} {l : List (Int × Unit)} {on known : Int} : -1048576 ≤ spanIf (askE no rate ts l) (driftS rate ts on known).1 ∧ spanIf (askE no rate ts l) (driftS rate ts on known).1 ≤ 1048576 ∧ -1048576 ≤ spanIf (askE no rate ts l) (driftS rate ts on known).2 ∧ spanIf (askE no rate ts l) (driftS rate ts on known).2 ≤ 1048576 := by
  unfold spanIf
  cases he : eqI (askE no rate ts l) 0 with
  | false => simp
  | true => exact drift_bnd (askE_ok (eqI_s.1 he))
def reLo (zlo lo n : Int) : Int := max lo (zlo - n)
def reHi (zhi hi n : Int) : Int := min hi (zhi - n)
def reachB (no rate : Int) (ts : List Test) (a b day lo hi n : Int) : Bool :=
  bif decide (n < -4194304) || decide (n > 4194304) then false else
  bif !eqI (askE no rate ts [(b, ()), (day, ())]) 0 then false else
  bif decide (reLo (driftS rate ts b day).1 lo n > reHi (driftS rate ts b day).2 hi n) then false else
  bif decide (a > b) then histB no rate ts day [(b, ()), (a, ())] [(reLo (driftS rate ts b day).1 lo n + n, ()), (reLo (driftS rate ts b day).1 lo n, ())]
  else histB no rate ts day [(a, ()), (b, ())] [(reLo (driftS rate ts b day).1 lo n, ()), (reLo (driftS rate ts b day).1 lo n + n, ())]
def fineB (no rate : Int) (ts : List Test) (a b day lo hi n : Int) : Bool :=
  bif decide (n < -4194304) || decide (n > 4194304) then true else
  bif !eqI (askE no rate ts [(b, ()), (day, ())]) 0 then false else
  bif decide (reLo (driftS rate ts b day).1 lo n > reHi (driftS rate ts b day).2 hi n) then true else
  bif decide (a > b) then eqI (histE no rate ts day [(b, ()), (a, ())] [(reLo (driftS rate ts b day).1 lo n + n, ()), (reLo (driftS rate ts b day).1 lo n, ())]) 0
  else eqI (histE no rate ts day [(a, ()), (b, ())] [(reLo (driftS rate ts b day).1 lo n, ()), (reLo (driftS rate ts b day).1 lo n + n, ())]) 0
def bndB (n : Int) : Bool := decide (-1048576 ≤ n) && decide (n ≤ 1048576)
abbrev W38 (no rate : Int) (ts : List Test) (fl : Bool) (b day lo hi a : Int) : Heap := [.c 24 [.i .i64 no, .i .i64 rate, .ls T26 ts fl], .c 3 [.i .i64 b], .c 3 [.i .i64 day], .c 40 [.i .i64 lo, .i .i64 hi], .c 3 [.i .i64 a]]
/-- What the closure works with, as_ the code has it. -/
def cZl (no rate : Int) (ts : List Test) (b day : Int) : Int := spanIf (askE no rate ts [(b, ()), (day, ())]) (driftS rate ts b day).1
def cZh (no rate : Int) (ts : List Test) (b day : Int) : Int := spanIf (askE no rate ts [(b, ()), (day, ())]) (driftS rate ts b day).2
theorem e38 (no rate n b day lo hi a : Int) (ts : List Test) (fl : Bool) : evB P H19 38 [.i .i64 n, .p 0 0, .p 1 0, .p 2 0, .p 3 0, .p 4 0] (W38 no rate ts fl b day lo hi a) =
    bif decide (n < -4194304) then some (.tup [.b false, .b true], W38 no rate ts fl b day lo hi a) else
    bif decide (n > 4194304) then some (.tup [.b false, .b true], W38 no rate ts fl b day lo hi a) else
    bif askE no rate ts [(b, ()), (day, ())] != 0 then some (.tup [.b false, .b (askE no rate ts [(b, ()), (day, ())] == 0)], W38 no rate ts fl b day lo hi a) else
    bif decide ((if w64 (cZl no rate ts b day - n) > lo then w64 (cZl no rate ts b day - n) else lo) > (if w64 (cZh no rate ts b day - n) < hi then w64 (cZh no rate ts b day - n) else hi)) then some (.tup [.b false, .b (askE no rate ts [(b, ()), (day, ())] == 0)], W38 no rate ts fl b day lo hi a) else
    bif decide (a > b) then
      some (.tup [.b (histB no rate ts day [(b, ()), (a, ())] [(w64 ((if w64 (cZl no rate ts b day - n) > lo then w64 (cZl no rate ts b day - n) else lo) + n), ()), ((if w64 (cZl no rate ts b day - n) > lo then w64 (cZl no rate ts b day - n) else lo), ())]),
        .b (histE no rate ts day [(b, ()), (a, ())] [(w64 ((if w64 (cZl no rate ts b day - n) > lo then w64 (cZl no rate ts b day - n) else lo) + n), ()), ((if w64 (cZl no rate ts b day - n) > lo then w64 (cZl no rate ts b day - n) else lo), ())] == 0)], W38 no rate ts fl b day lo hi a)
    else some (.tup [.b (histB no rate ts day [(a, ()), (b, ())] [((if w64 (cZl no rate ts b day - n) > lo then w64 (cZl no rate ts b day - n) else lo), ()), (w64 ((if w64 (cZl no rate ts b day - n) > lo then w64 (cZl no rate ts b day - n) else lo) + n), ())]),
        .b (histE no rate ts day [(a, ()), (b, ())] [((if w64 (cZl no rate ts b day - n) > lo then w64 (cZl no rate ts b day - n) else lo), ()), (w64 ((if w64 (cZl no rate ts b day - n) > lo then w64 (cZl no rate ts b day - n) else lo) + n), ())] == 0)], W38 no rate ts fl b day lo hi a) := by kernel_rfl
theorem eq0 (n : Int) : (n == 0) = eqI n 0 := by
  unfold eqI
  by_cases h : n = 0 <;> simp [h]
noncomputable def h38 (args : List V) (H : Heap) : Option (Bool × V) := match args, H with
  | [.i .i64 n, .p 0 0, .p 1 0, .p 2 0, .p 3 0, .p 4 0], [.c 24 [.i .i64 no, .i .i64 rate, .ls [.i .i64, .i .i64, .i .i64, .i .i64] ts fl], .c 3 [.i .i64 b], .c 3 [.i .i64 day], .c 40 [.i .i64 lo, .i .i64 hi], .c 3 [.i .i64 a]] => some (((bndB lo) && (bndB hi)), .tup [.b (reachB no rate ts a b day lo hi n), .b (fineB no rate ts a b day lo hi n)])
  | _, _ => none
theorem okk38 (h : HooksOK P X noHooks) (n : Int) (no : Int) (rate : Int) (ts : List Test) (fl : Bool) (b : Int) (day : Int) (lo : Int) (hi : Int) (a : Int) (p0 : (bndB lo) = true) (p1 : (bndB hi) = true) : Enters P 38 ∧ CallV P X 38 [.i .i64 n, .p 0 0, .p 1 0, .p 2 0, .p 3 0, .p 4 0] [.c 24 [.i .i64 no, .i .i64 rate, .ls T26 ts fl], .c 3 [.i .i64 b], .c 3 [.i .i64 day], .c 40 [.i .i64 lo, .i .i64 hi], .c 3 [.i .i64 a]] (.tup [.b (reachB no rate ts a b day lo hi n), .b (fineB no rate ts a b day lo hi n)]) [.c 24 [.i .i64 no, .i .i64 rate, .ls T26 ts fl], .c 3 [.i .i64 b], .c 3 [.i .i64 day], .c 40 [.i .i64 lo, .i .i64 hi], .c 3 [.i .i64 a]] [] := by

  have hlo : -1048576 ≤ lo ∧ lo ≤ 1048576 := by simpa [bndB] using p0
  have hhi : -1048576 ≤ hi ∧ hi ≤ 1048576 := by simpa [bndB] using p1
  refine evB_sound (H19_ok h) ((e38 no rate n b day lo hi a ts fl).trans ?_)
  unfold reachB fineB
  cases c1 : decide (n < -4194304) with
  | true => rfl
  | false =>
    cases c2 : decide (n > 4194304) with
    | true => rfl
    | false =>
      have c1 : ¬ _ := of_decide_eq_false c1
      have c2 : ¬ _ := of_decide_eq_false c2
      rw [cond_false, cond_false, neq0]
      cases he : eqI (askE no rate ts [(b, ()), (day, ())]) 0 with
      | false => simp only [Bool.not_false, cond_true, Bool.or_false, cond_false, eq0, he]
      | true =>
        have hz := spanIf_bnd (no := no) (rate := rate) (ts := ts) (l := [(b, ()), (day, ())]) (on := b) (known := day)
        have z1 : cZl no rate ts b day = (driftS rate ts b day).1 := by unfold cZl spanIf; rw [he]; rfl
        have z2 : cZh no rate ts b day = (driftS rate ts b day).2 := by unfold cZh spanIf; rw [he]; rfl
        have y1 : spanIf (askE no rate ts [(b, ()), (day, ())]) (driftS rate ts b day).1 = (driftS rate ts b day).1 := z1
        have y2 : spanIf (askE no rate ts [(b, ()), (day, ())]) (driftS rate ts b day).2 = (driftS rate ts b day).2 := z2
        rw [y1, y2] at hz
        rw [z1, z2, w64S (n := (driftS rate ts b day).1 - n) (by omega) (by omega), w64S (n := (driftS rate ts b day).2 - n) (by omega) (by omega)]
        have e1 : (if (driftS rate ts b day).1 - n > lo then (driftS rate ts b day).1 - n else lo) = reLo (driftS rate ts b day).1 lo n := by unfold reLo; split <;> omega
        have e2 : (if (driftS rate ts b day).2 - n < hi then (driftS rate ts b day).2 - n else hi) = reHi (driftS rate ts b day).2 hi n := by unfold reHi; split <;> omega
        rw [e1, e2, w64S (n := reLo (driftS rate ts b day).1 lo n + n) (by unfold reLo; omega) (by unfold reLo; omega)]
        simp only [Bool.not_true, Bool.or_false, cond_false, eq0, he]
        cases decide (reLo (driftS rate ts b day).1 lo n > reHi (driftS rate ts b day).2 hi n) with
        | true => rfl
        | false => cases decide (a > b) <;> rfl
theorem ok38 (h : HooksOK P X noHooks) : ∀ args H v, h38 args H = some (true, v) → Enters P 38 ∧ CallV P X 38 args H v H [] := by
  intro args H v hv
  unfold h38 at hv
  split at hv
  case h_2 => cases hv
  rename_i n no rate ts fl b day lo hi a
  simp only [Option.some.injEq, Prod.mk.injEq, Bool.and_eq_true, eqI_s, true_and] at hv
  obtain ⟨⟨p0, p1⟩, rfl⟩ := hv
  exact okk38 h _ _ _ _ _ _ _ _ _ _ p0 p1
noncomputable def H20 : Hooks := H19.peek1 38 h38
theorem H20_ok (h : HooksOK P X noHooks) : HooksOK P X H20 := (H19_ok h).peek1 (ok38 h)
def endStop (no rate : Int) (ts : List Test) (a b day xl xh yl yh : Int) (n : Int) : Bool :=
  !fineB no rate ts a b day xl xh n || !(reachB no rate ts a b day xl xh n == (decide (yl ≤ n) && decide (n ≤ yh)))
def S7 (no : Int) (rate : Int) (ts : List Test) (fl : Bool) (a : Int) (b : Int) (day : Int) (xl : Int) (xh : Int) (yl : Int) (yh : Int) (l1 : List (Int × Unit)) (l2 : List (Int × Unit)) (l : List (Int × Unit)) (len : Int) (i : Int) : St :=
  ⟨[(12, .b false), (15, .p 5 0), (18, .fn 38 [] [.p 0 0, .p 2 0, .p 3 0, .p 4 0, .p 1 0]), (116, .sl 8), (117, .i .i64 len), (118, .i .i64 i)], [.c 24 [.i .i64 no, .i .i64 rate, .ls T26 ts fl], .c 3 [.i .i64 a], .c 3 [.i .i64 b], .c 3 [.i .i64 day], .c 40 [.i .i64 xl, .i .i64 xh], .c 40 [.i .i64 yl, .i .i64 yh], .r 3 T3 l1 true, .r 3 T3 l2 true, .r 3 T3 l false], []⟩
theorem r7 (no rate : Int) (ts : List Test) (fl : Bool) (a b day xl xh yl yh : Int) (l1 l2 l : List (Int × Unit)) (len i : Int) : evRound P H20 7 16 (S7 no rate ts fl a b day xl xh yl yh l1 l2 l len i) =
    bif decide (i < len) then
     bif decide (0 ≤ i) && decide (i < (l.length : Int)) then
      bif decide (Int.toNat i < l.length) then
       bif bndB xl && bndB xh then
        bif !fineB no rate ts a b day xl xh (ra l (Int.toNat i)).1 then some (.ret, S7 no rate ts fl a b day xl xh yl yh l1 l2 l len i) else
        bif decide (yl ≤ (ra l (Int.toNat i)).1) then
         bif !(reachB no rate ts a b day xl xh (ra l (Int.toNat i)).1 == decide ((ra l (Int.toNat i)).1 ≤ yh)) then some (.ret, S7 no rate ts fl a b day xl xh yl yh l1 l2 l len i) else some (.n, S7 no rate ts fl a b day xl xh yl yh l1 l2 l len (w64 (i + 1)))
        else bif !(reachB no rate ts a b day xl xh (ra l (Int.toNat i)).1 == false) then some (.ret, S7 no rate ts fl a b day xl xh yl yh l1 l2 l len i) else some (.n, S7 no rate ts fl a b day xl xh yl yh l1 l2 l len (w64 (i + 1)))
       else none
      else none
     else none
    else some (.exit 0, S7 no rate ts fl a b day xl xh yl yh l1 l2 l len i) := by kernel_rfl
noncomputable def l7 : St → Option (Tr (Ex × St))
  | ⟨[(12, .b false), (15, .p 5 0), (18, .fn 38 [] [.p 0 0, .p 2 0, .p 3 0, .p 4 0, .p 1 0]), (116, .sl 8), (117, .i .i64 len), (118, .i .i64 i)], [.c 24 [.i .i64 no, .i .i64 rate, .ls [.i .i64, .i .i64, .i .i64, .i .i64] ts fl], .c 3 [.i .i64 a], .c 3 [.i .i64 b], .c 3 [.i .i64 day], .c 40 [.i .i64 xl, .i .i64 xh], .c 40 [.i .i64 yl, .i .i64 yh], .r 3 [.i .i64] l1 true, .r 3 [.i .i64] l2 true, .r 3 [.i .i64] l false], []⟩ =>
    some (.test (eqI len (l.length) && (eqI i (0) && ((bndB xl) && ((bndB xh) && (lenB l)))))
    (.test (upL (σ := Unit) (fun i _ => endStop no rate ts a b day xl xh yl yh (ra l i).1) (fun _ s => s) (l.length) (0) (())).1
      (.ok (.ret, ((fun i s => S7 no rate ts fl a b day xl xh yl yh l1 l2 l l.length i : Nat → Unit → St)) (upL (σ := Unit) (fun i _ => endStop no rate ts a b day xl xh yl yh (ra l i).1) (fun _ s => s) (l.length) (0) (())).2.1 (upL (σ := Unit) (fun i _ => endStop no rate ts a b day xl xh yl yh (ra l i).1) (fun _ s => s) (l.length) (0) (())).2.2))
      (.ok (.exit 0, ((fun i s => S7 no rate ts fl a b day xl xh yl yh l1 l2 l l.length i : Nat → Unit → St)) (upL (σ := Unit) (fun i _ => endStop no rate ts a b day xl xh yl yh (ra l i).1) (fun _ s => s) (l.length) (0) (())).2.1 (upL (σ := Unit) (fun i _ => endStop no rate ts a b day xl xh yl yh (ra l i).1) (fun _ s => s) (l.length) (0) (())).2.2)))
    .fail)
  | _ => none
theorem lrun7 (h : HooksOK P X noHooks) (no : Int) (rate : Int) (ts : List Test) (fl : Bool) (a : Int) (b : Int) (day : Int) (xl : Int) (xh : Int) (yl : Int) (yh : Int) (l1 : List (Int × Unit)) (l2 : List (Int × Unit)) (l : List (Int × Unit)) (p0 : (bndB xl) = true) (p1 : (bndB xh) = true) (p2 : (lenB l) = true) (e : Ex) (st' : St)
    (ht : (Tr.get (.test (upL (σ := Unit) (fun i _ => endStop no rate ts a b day xl xh yl yh (ra l i).1) (fun _ s => s) (l.length) (0) (())).1
      (.ok (.ret, ((fun i s => S7 no rate ts fl a b day xl xh yl yh l1 l2 l l.length i : Nat → Unit → St)) (upL (σ := Unit) (fun i _ => endStop no rate ts a b day xl xh yl yh (ra l i).1) (fun _ s => s) (l.length) (0) (())).2.1 (upL (σ := Unit) (fun i _ => endStop no rate ts a b day xl xh yl yh (ra l i).1) (fun _ s => s) (l.length) (0) (())).2.2))
      (.ok (.exit 0, ((fun i s => S7 no rate ts fl a b day xl xh yl yh l1 l2 l l.length i : Nat → Unit → St)) (upL (σ := Unit) (fun i _ => endStop no rate ts a b day xl xh yl yh (ra l i).1) (fun _ s => s) (l.length) (0) (())).2.1 (upL (σ := Unit) (fun i _ => endStop no rate ts a b day xl xh yl yh (ra l i).1) (fun _ s => s) (l.length) (0) (())).2.2)))) = some (e, st')) : LoopV P X 7 16 (S7 no rate ts fl a b day xl xh yl yh l1 l2 l (l.length) (0)) e st' := by
  refine LoopV.run (H20_ok h) (σ := Unit) (n := l.length) (stop := fun i _ => endStop no rate ts a b day xl xh yl yh (ra l i).1) (step := fun _ s => s) (e1 := .ret) (e2 := .exit 0) (st := (fun i s => S7 no rate ts fl a b day xl xh yl yh l1 l2 l l.length i : Nat → Unit → St)) (s1 := (fun i s => S7 no rate ts fl a b day xl xh yl yh l1 l2 l l.length i : Nat → Unit → St)) (s2 := (fun i s => S7 no rate ts fl a b day xl xh yl yh l1 l2 l l.length i : Nat → Unit → St)) (fun _ _ => True)
    (fun i s hinv hi hs => ?_) (by simp) (fun i s hinv hi hs => ?_) (fun s hinv => ?_) (by simp) (l.length) (0) (()) (by omega) ?_ e st' ht

  · have hlen := lenB_s.1 p2
    rw [r7, cond_pos (by simpa using hi), cond_pos (inB (by omega) (by omega)), Int.toNat_natCast, cond_pos (by simpa using hi), cond_pos (by rw [p0, p1]; rfl)]
    unfold endStop at hs
    cases c1 : fineB no rate ts a b day xl xh (ra l i).1 with
    | false => rfl
    | true =>
      rw [c1] at hs
      rw [cond_neg (by rfl)]
      simp only [Bool.not_true, Bool.false_or] at hs
      cases c2 : decide (yl ≤ (ra l i).1) with
      | true =>
        rw [c2, Bool.true_and] at hs
        rw [cond_true, cond_pos hs]
      | false =>
        rw [c2, Bool.false_and] at hs
        rw [cond_false, cond_pos hs]
  · have hlen := lenB_s.1 p2
    refine ⟨?_, trivial⟩
    rw [r7, cond_pos (by simpa using hi), cond_pos (inB (by omega) (by omega)), Int.toNat_natCast, cond_pos (by simpa using hi), cond_pos (by rw [p0, p1]; rfl), natS (by omega)]
    unfold endStop at hs
    simp only [Bool.or_eq_false_iff] at hs
    obtain ⟨c1, hs⟩ := hs
    rw [c1, cond_false]
    cases c2 : decide (yl ≤ (ra l i).1) with
    | true =>
      rw [c2, Bool.true_and] at hs
      rw [cond_true, cond_neg hs]
    | false =>
      rw [c2, Bool.false_and] at hs
      rw [cond_false, cond_neg hs]
  · rw [r7, cond_neg (by simp)]
  · trivial
theorem lok7 (h : HooksOK P X noHooks) : ∀ st t e st', l7 st = some t → t.get = some (e, st') → LoopV P X 7 16 st e st' := by
  intro st t e st' hl ht
  unfold l7 at hl
  split at hl
  case h_2 => cases hl
  rename_i len i no rate ts fl a b day xl xh yl yh l1 l2 l
  cases hl
  replace ht := ht
  have hc : (eqI len (l.length) && (eqI i (0) && ((bndB xl) && ((bndB xh) && (lenB l))))) = true := by
    cases hc : (eqI len (l.length) && (eqI i (0) && ((bndB xl) && ((bndB xh) && (lenB l))))) with
    | true => rfl
    | false => rw [hc] at ht; cases ht
  rw [hc] at ht
  simp only [Bool.and_eq_true, eqI_s] at hc
  obtain ⟨rfl, rfl, p0, p1, p2⟩ := hc
  exact lrun7 h _ _ _ _ _ _ _ _ _ _ _ _ _ _ p0 p1 p2 e st' ht
noncomputable def h13 : List V → Option (Bool × V)
  | [] => some (true, .b true)
  | _ => none
end Go.Mini.Co
end
section
set_option linter.unusedVariables false
set_option linter.unusedSimpArgs false
set_option maxRecDepth 100000
namespace Go.Mini.Co
open Go Go.Mini
/-! Drifts, in plain Lean. -/
theorem upL_snoc {σ : Type} {step : Nat → σ → σ} : ∀ (k i : Nat) (s : σ), (upL (fun _ _ => false) step (k + 1) i s).2.2 = step (i + k) (upL (fun _ _ => false) step k i s).2.2
  | 0, i, s => by simp only [upL, cond_false, Nat.add_zero]
  | k + 1, i, s => by
    have := upL_snoc (step := step) k (i + 1) (step i s)
    rw [upL, cond_false, this]
    simp only [upL, cond_false]
    congr 1
    omega
def driftN (rate on known : Int) (ts : List Test) (k : Nat) : Int × Int := (upL (fun _ _ => false) (driftStep rate on known ts) k 0 (-1048576, 1048576)).2.2
theorem driftN_le {rate on known : Int} {ts : List Test} : ∀ (k : Nat) (x : Int), (driftN rate on known ts k).1 ≤ x ↔ -1048576 ≤ x ∧ ∀ i, i < k → (ta ts i).2.1 ≤ known → (ta ts i).2.2.1 - rate * absD (ta ts i).1 on ≤ x
  | 0, x => by
    simp only [driftN, upL]
    exact ⟨fun h => ⟨h, fun i hi => by omega⟩, fun h => h.1⟩
  | k + 1, x => by
    have ih := driftN_le (rate := rate) (on := on) (known := known) (ts := ts) k x
    have e : driftN rate on known ts (k + 1) = driftStep rate on known ts k (driftN rate on known ts k) := by
      unfold driftN
      rw [upL_snoc, Nat.zero_add]
    rw [e]
    unfold driftStep
    by_cases hk : (ta ts k).2.1 ≤ known
    · rw [cond_pos (by simpa using hk)]
      constructor
      · intro h
        have h' : max (driftN rate on known ts k).1 ((ta ts k).2.2.1 - rate * absD (ta ts k).1 on) ≤ x := h
        obtain ⟨h1, h2⟩ := ih.1 (by omega)
        refine ⟨h1, fun i hi hki => ?_⟩
        by_cases hik : i = k
        · subst hik; omega
        · exact h2 i (by omega) hki
      · rintro ⟨h1, h2⟩
        have a1 := ih.2 ⟨h1, fun i hi hki => h2 i (by omega) hki⟩
        have a2 := h2 k (by omega) hk
        show max _ _ ≤ x
        omega
    · rw [cond_neg (by simpa using hk), ih]
      constructor
      · rintro ⟨h1, h2⟩
        refine ⟨h1, fun i hi hki => ?_⟩
        by_cases hik : i = k
        · subst hik; exact absurd hki hk
        · exact h2 i (by omega) hki
      · rintro ⟨h1, h2⟩
        exact ⟨h1, fun i hi hki => h2 i (by omega) hki⟩
theorem le_driftN {rate on known : Int} {ts : List Test} : ∀ (k : Nat) (x : Int), x ≤ (driftN rate on known ts k).2 ↔ x ≤ 1048576 ∧ ∀ i, i < k → (ta ts i).2.1 ≤ known → x ≤ (ta ts i).2.2.2.1 + rate * absD (ta ts i).1 on
  | 0, x => by
    simp only [driftN, upL]
    exact ⟨fun h => ⟨h, fun i hi => by omega⟩, fun h => h.1⟩
  | k + 1, x => by
    have ih := le_driftN (rate := rate) (on := on) (known := known) (ts := ts) k x
    have e : driftN rate on known ts (k + 1) = driftStep rate on known ts k (driftN rate on known ts k) := by
      unfold driftN
      rw [upL_snoc, Nat.zero_add]
    rw [e]
    unfold driftStep
    by_cases hk : (ta ts k).2.1 ≤ known
    · rw [cond_pos (by simpa using hk)]
      constructor
      · intro h
        have h' : x ≤ min (driftN rate on known ts k).2 ((ta ts k).2.2.2.1 + rate * absD (ta ts k).1 on) := h
        obtain ⟨h1, h2⟩ := ih.1 (by omega)
        refine ⟨h1, fun i hi hki => ?_⟩
        by_cases hik : i = k
        · subst hik; omega
        · exact h2 i (by omega) hki
      · rintro ⟨h1, h2⟩
        have a1 := ih.2 ⟨h1, fun i hi hki => h2 i (by omega) hki⟩
        have a2 := h2 k (by omega) hk
        show x ≤ min _ _
        omega
    · rw [cond_neg (by simpa using hk), ih]
      constructor
      · rintro ⟨h1, h2⟩
        refine ⟨h1, fun i hi hki => ?_⟩
        by_cases hik : i = k
        · subst hik; exact absurd hki hk
        · exact h2 i (by omega) hki
      · rintro ⟨h1, h2⟩
        exact ⟨h1, fun i hi hki => h2 i (by omega) hki⟩
theorem drift_le {rate on known : Int} {ts : List Test} {x : Int} : (driftS rate ts on known).1 ≤ x ↔ -1048576 ≤ x ∧ ∀ i, i < ts.length → (ta ts i).2.1 ≤ known → (ta ts i).2.2.1 - rate * absD (ta ts i).1 on ≤ x := driftN_le ts.length x
theorem le_drift {rate on known : Int} {ts : List Test} {x : Int} : x ≤ (driftS rate ts on known).2 ↔ x ≤ 1048576 ∧ ∀ i, i < ts.length → (ta ts i).2.1 ≤ known → x ≤ (ta ts i).2.2.2.1 + rate * absD (ta ts i).1 on := le_driftN ts.length x
/-- Tests that do not contradict each other. -/
def Fits (rate : Int) (ts : List Test) : Prop := ∀ i k, i < ts.length → k < ts.length → (ta ts i).2.2.1 - (ta ts k).2.2.2.1 ≤ rate * absD (ta ts i).1 (ta ts k).1
theorem absD_comm (a b : Int) : absD a b = absD b a := by unfold absD; omega
theorem fits_of {no rate : Int} {ts : List Test} (h : scaleE no rate ts = 0) : Fits rate ts := by
  obtain ⟨hw, hp⟩ := scaleE_0 h
  have hok := wellB_ok hw
  unfold pairI at hp
  have h1 := (upU_none (stop := fun i => (pairK rate ts i).1) _ _).1 hp
  have lt : ∀ i k, i < k → k < ts.length → contraB rate (ta ts i) (ta ts k) = false := fun i k hik hk => by
    have h2 := h1 i (by omega) (by omega)
    unfold pairK at h2
    exact (upU_none (stop := fun k => contraB rate (ta ts i) (ta ts k)) _ _).1 h2 k (by omega) (by omega)
  intro i k hi hk
  rcases Nat.lt_trichotomy i k with hik | rfl | hik
  · have := lt i k hik hk
    unfold contraB at this
    have := of_decide_eq_false this
    omega
  · obtain ⟨_, _, t3, _, _⟩ := okTest_s.1 (allOk_at hok hi)
    have e : absD (ta ts i).1 (ta ts i).1 = 0 := by unfold absD; omega
    rw [e, Int.mul_zero]; omega
  · have := lt k i hik hi
    unfold contraB at this
    have := of_decide_eq_false this
    rw [absD_comm]
    omega
theorem tri {r : Int} (hr : 0 ≤ r) (a b c d : Int) : r * absD a b ≤ r * absD a c + r * absD c d + r * absD d b := by
  rw [← Int.mul_add, ← Int.mul_add]
  exact Int.mul_le_mul_of_nonneg_left (by unfold absD; omega) hr
theorem drift_lip {no rate : Int} {ts : List Test} (h : scaleE no rate ts = 0) (a b known : Int) : (driftS rate ts b known).1 ≤ (driftS rate ts a known).2 + rate * absD a b := by
  have hf := fits_of h
  obtain ⟨hw, _⟩ := scaleE_0 h
  have hs := wellB_scale hw
  obtain ⟨r1, r2⟩ := okRate_s.1 (wellB_rate hw)
  have b1 := drift_bnd (on := a) (known := known) hs
  have hn : 0 ≤ rate * absD a b := Int.mul_nonneg r1 (by unfold absD; omega)
  rw [drift_le]
  refine ⟨by omega, fun i hi hki => ?_⟩
  have key : (ta ts i).2.2.1 - rate * absD (ta ts i).1 b - rate * absD a b ≤ (driftS rate ts a known).2 := by
    obtain ⟨_, _, t3, t4, t5⟩ := okTest_s.1 (allOk_at (wellB_ok hw) hi)
    have hn2 : 0 ≤ rate * absD (ta ts i).1 b := Int.mul_nonneg r1 (by unfold absD; omega)
    rw [le_drift]
    refine ⟨by omega, fun k hk hkk => ?_⟩
    have h1 := hf i k hi hk
    have h2 := tri r1 (ta ts i).1 (ta ts k).1 b a
    rw [absD_comm b a, absD_comm a (ta ts k).1] at h2
    omega
  omega
theorem drift_fits {no rate : Int} {ts : List Test} (h : scaleE no rate ts = 0) (a known : Int) : (driftS rate ts a known).1 ≤ (driftS rate ts a known).2 := by
  have := drift_lip h a a known
  have e : absD a a = 0 := by unfold absD; omega
  rw [e, Int.mul_zero] at this
  omega
/-! Questions with one day, with two. -/
theorem rise1 {a : Int} (ha : dayB a = true) : riseB [(a, ())] = true := by
  have : (riseU [(a, ())]).1 = false := by
    show (upL (σ := Unit) (fun i _ => riseStop [(a, ())] i) (fun _ s => s) 1 0 ()).1 = false
    simp [upL, riseStop, ra, ha]
  unfold riseB
  rw [this]; rfl
theorem rise2 {a b : Int} (ha : dayB a = true) (hb : dayB b = true) (h : a < b) : riseB [(a, ()), (b, ())] = true := by
  have : (riseU [(a, ()), (b, ())]).1 = false := by
    show (upL (σ := Unit) (fun i _ => riseStop [(a, ()), (b, ())] i) (fun _ s => s) 2 0 ()).1 = false
    have hba : ¬ b ≤ a := by omega
    simp [upL, riseStop, ra, ha, hb, hba]
  unfold riseB
  rw [this]; rfl
theorem ask_day {no rate : Int} {ts : List Test} {l : List (Int × Unit)} (h : askE no rate ts l = 0) {day : Int} (hd : dayB day = true) : askE no rate ts [(day, ())] = 0 := by
  unfold askE
  rw [(askE_0 h).1]
  have : (daysU [(day, ())]).1 = false := by
    rw [daysU_none]
    intro i hi
    have : i = 0 := by simp at hi; exact hi
    subst this
    exact hd
  rw [this]; rfl
theorem histE0 {no rate : Int} {ts : List Test} {day : Int} {l g : List (Int × Unit)} (h : askE no rate ts [(day, ())] = 0) (hl : l.length = g.length) (hr : riseB l = true) : histE no rate ts day l g = 0 := by
  unfold histE
  rw [h, sameLen_s.2 hl, hr]; rfl
theorem histB0 {no rate : Int} {ts : List Test} {day : Int} {l g : List (Int × Unit)} (h : histE no rate ts day l g = 0) : histB no rate ts day l g = possB rate ts day l g := by
  unfold histB
  rw [h]; rfl
theorem poss1 {rate : Int} {ts : List Test} {day a x : Int} : possB rate ts day [(a, ())] [(x, ())] = true ↔ (driftS rate ts a day).1 ≤ x ∧ x ≤ (driftS rate ts a day).2 := by
  unfold possB
  rw [Bool.not_eq_true', upU_none (stop := possStop rate ts day [(a, ())] [(x, ())])]
  constructor
  · intro h
    have := h 0 (by omega) (by simp)
    simp [possStop, ra] at this
    omega
  · intro h j _ hj
    have : j = 0 := by simp at hj; omega
    subst this
    simp [possStop, ra]
    omega
theorem poss2 {rate : Int} {ts : List Test} {day a b x y : Int} : possB rate ts day [(a, ()), (b, ())] [(x, ()), (y, ())] = true ↔ ((driftS rate ts a day).1 ≤ x ∧ x ≤ (driftS rate ts a day).2) ∧ ((driftS rate ts b day).1 ≤ y ∧ y ≤ (driftS rate ts b day).2) ∧ absD y x ≤ rate * (b - a) := by
  unfold possB
  rw [Bool.not_eq_true', upU_none (stop := possStop rate ts day [(a, ()), (b, ())] [(x, ()), (y, ())])]
  constructor
  · intro h
    have h0 := h 0 (by omega) (by simp)
    have h1 := h 1 (by omega) (by simp)
    simp [possStop, ra] at h0 h1
    omega
  · intro h j _ hj
    have : j = 0 ∨ j = 1 := by simp at hj; omega
    rcases this with rfl | rfl
    · simp [possStop, ra]; omega
    · simp [possStop, ra]; omega
/-! The closure of CourseEnds. -/
section
variable {no rate a b day : Int} {ts : List Test}
theorem ask_cons {l : List (Int × Unit)} (h : scaleE no rate ts = 0) (hl : ∀ i, i < l.length → dayB (ra l i).1 = true) : askE no rate ts l = 0 := by
  unfold askE
  rw [h, daysU_none.2 hl]; rfl
theorem reach_iff (h : scaleE no rate ts = 0) (ha : dayB a = true) (hb : dayB b = true) (hd : dayB day = true) (hab : a ≠ b) (n : Int) :
    fineB no rate ts a b day (driftS rate ts a day).1 (driftS rate ts a day).2 n = true ∧
      (reachB no rate ts a b day (driftS rate ts a day).1 (driftS rate ts a day).2 n = true ↔ (turnS rate ts a b day).1 ≤ n ∧ n ≤ (turnS rate ts a b day).2) := by
  have hs := wellB_scale (scaleE_0 h).1
  have bA := drift_bnd (on := a) (known := day) hs
  have bB := drift_bnd (on := b) (known := day) hs
  have fA := drift_fits h a day
  have fB := drift_fits h b day
  have hask : askE no rate ts [(b, ()), (day, ())] = 0 := ask_cons h (fun i hi => by
    have : i = 0 ∨ i = 1 := by simp at hi; omega
    rcases this with rfl | rfl
    · exact hb
    · exact hd)
  have hday : askE no rate ts [(day, ())] = 0 := ask_day hask hd
  unfold fineB reachB turnS
  rw [hask]
  simp only [eqI, decide_true, Bool.not_true, cond_false]
  by_cases h1 : n < -4194304 ∨ n > 4194304
  · have : (decide (n < -4194304) || decide (n > 4194304)) = true := by simpa using h1
    rw [this]
    refine ⟨rfl, ?_⟩
    simp only [cond_true, Bool.false_eq_true, false_iff]
    omega
  · have : (decide (n < -4194304) || decide (n > 4194304)) = false := by simpa using h1
    rw [this]
    simp only [cond_false]
    by_cases h2 : reLo (driftS rate ts b day).1 (driftS rate ts a day).1 n > reHi (driftS rate ts b day).2 (driftS rate ts a day).2 n
    · rw [decide_eq_true h2]
      refine ⟨rfl, ?_⟩
      simp only [cond_true, Bool.false_eq_true, false_iff]
      unfold reLo reHi at h2
      omega
    · rw [decide_eq_false h2]
      simp only [cond_false]
      have h2' := h2
      unfold reLo reHi at h2
      generalize hx : reLo (driftS rate ts b day).1 (driftS rate ts a day).1 n = x
      have hx' : x = max (driftS rate ts a day).1 ((driftS rate ts b day).1 - n) := hx.symm
      by_cases hgt : a > b
      · rw [decide_eq_true hgt]
        simp only [cond_true]
        have e0 : histE no rate ts day [(b, ()), (a, ())] [(x + n, ()), (x, ())] = 0 := histE0 hday rfl (rise2 hb ha (by omega))
        rw [e0, histB0 e0, poss2]
        refine ⟨by simp, ?_⟩
        have e1 : absD a b = a - b := by unfold absD; omega
        rw [e1]
        unfold absD
        omega
      · rw [decide_eq_false hgt]
        simp only [cond_false]
        have e0 : histE no rate ts day [(a, ()), (b, ())] [(x, ()), (x + n, ())] = 0 := histE0 hday rfl (rise2 ha hb (by omega))
        rw [e0, histB0 e0, poss2]
        refine ⟨by simp, ?_⟩
        have e1 : absD a b = b - a := by unfold absD; omega
        rw [e1]
        unfold absD
        omega
theorem turn_fits (h : scaleE no rate ts = 0) : (turnS rate ts a b day).1 ≤ (turnS rate ts a b day).2 := by
  have fA := drift_fits h a day
  have fB := drift_fits h b day
  have l1 := drift_lip h a b day
  have l2 := drift_lip h b a day
  rw [absD_comm b a] at l2
  obtain ⟨r1, _⟩ := okRate_s.1 (wellB_rate (scaleE_0 h).1)
  have : 0 ≤ rate * absD a b := Int.mul_nonneg r1 (by unfold absD; omega)
  unfold turnS
  show max _ _ ≤ min _ _
  omega
end
/-! The law. -/
noncomputable def H21 : Hooks := (H20.loop1 7 16 l7).call1 13 h13
abbrev EA (no rate : Int) (ts : List Test) (a day : Int) : Int := askE no rate ts [(a, ()), (day, ())]
abbrev EB (no rate : Int) (ts : List Test) (a b day : Int) : Int := askE no rate ts [(a, ()), (b, ()), (day, ())]
def XL (no rate : Int) (ts : List Test) (a day : Int) : Int := spanIf (EA no rate ts a day) (driftS rate ts a day).1
def XH (no rate : Int) (ts : List Test) (a day : Int) : Int := spanIf (EA no rate ts a day) (driftS rate ts a day).2
def YL (no rate : Int) (ts : List Test) (a b day : Int) : Int := spanIf (EB no rate ts a b day) (turnS rate ts a b day).1
def YH (no rate : Int) (ts : List Test) (a b day : Int) : Int := spanIf (EB no rate ts a b day) (turnS rate ts a b day).2
def endsErr (EA EB XL XH YL YH : Int) : Option V :=
  bif XL == 0 && (XH == 0 && true) then
    bif YL == 0 && (YH == 0 && true) then
      bif EA != 0 then (bif EB != 0 then some (.b true) else bif EA == 0 then some (.b (EB == 1)) else some (.b false)) else bif EA == 0 then some (.b (EB == 1)) else some (.b false)
    else bif EA == 0 then some (.b (EB == 1)) else some (.b false)
  else bif EA == 0 then some (.b (EB == 1)) else some (.b false)
def endsRest (no rate a b day turn : Int) (ts : List Test) (XL XH YL YH : Int) : Option V :=
  bif a == b then some (.b (YL == 0 && (YH == 0 && true))) else
  bif eqI (List.length [(YL, ()), (YH, ()), (turn, ())] : Nat) (List.length [(YL, ()), (YH, ()), (turn, ())] : Nat) && (eqI 0 0 && (bndB XL && (bndB XH && lenB [(YL, ()), (YH, ()), (turn, ())]))) then
    bif (upL (σ := Unit) (fun i _ => endStop no rate ts a b day XL XH YL YH (ra [(YL, ()), (YH, ()), (turn, ())] i).1) (fun _ s => s) (List.length [(YL, ()), (YH, ()), (turn, ())]) 0 ()).1 then some (.b false) else
    bif bndB XL && bndB XH then
      bif bndB XL && bndB XH then
        bif fineB no rate ts a b day XL XH (w64 (YL - 1)) then
          bif fineB no rate ts a b day XL XH (w64 (YH + 1)) then
            bif !reachB no rate ts a b day XL XH (w64 (YL - 1)) then
              bif !reachB no rate ts a b day XL XH (w64 (YH + 1)) then some (.b (decide (YL ≤ YH))) else some (.b false)
            else some (.b false)
          else some (.b false)
        else some (.b false)
      else none
    else none
  else none
theorem e7 (no rate a b day grams turn : Int) (ts : List Test) (fl : Bool) : evP P H21 7 [.agg [.i .i64 no, .i .i64 rate, .ls T26 ts fl], .i .i64 a, .i .i64 b, .i .i64 day, .i .i64 grams, .i .i64 turn] =
    bif decide ((ts.length : Int) > 100) then some (.b true) else
    bif EA no rate ts a day != 0 then endsErr (EA no rate ts a day) (EB no rate ts a b day) (XL no rate ts a day) (XH no rate ts a day) (YL no rate ts a b day) (YH no rate ts a b day) else
    bif EB no rate ts a b day != 0 then endsErr (EA no rate ts a day) (EB no rate ts a b day) (XL no rate ts a day) (XH no rate ts a day) (YL no rate ts a b day) (YH no rate ts a b day) else
    bif histE no rate ts day [(a, ())] [(grams, ())] != 0 then some (.b false) else
    bif decide (XL no rate ts a day ≤ grams) then
      bif !(histB no rate ts day [(a, ())] [(grams, ())] == decide (grams ≤ XH no rate ts a day)) then some (.b false) else endsRest no rate a b day turn ts (XL no rate ts a day) (XH no rate ts a day) (YL no rate ts a b day) (YH no rate ts a b day)
    else bif !(histB no rate ts day [(a, ())] [(grams, ())] == false) then some (.b false) else endsRest no rate a b day turn ts (XL no rate ts a day) (XH no rate ts a day) (YL no rate ts a b day) (YH no rate ts a b day) := by kernel_rfl
theorem endsErr0 {EA EB XL XH YL YH : Int} (hA : EA = 0) (hB : EB = 1) : endsErr EA EB XL XH YL YH = some (.b true) := by
  subst hA hB
  unfold endsErr
  cases (XL == 0 && (XH == 0 && true)) <;> cases (YL == 0 && (YH == 0 && true)) <;> rfl
theorem ends_rest {no rate a b day : Int} {ts : List Test} (turn : Int) (h : scaleE no rate ts = 0) (ha : dayB a = true) (hb : dayB b = true) (hd : dayB day = true) :
    endsRest no rate a b day turn ts (driftS rate ts a day).1 (driftS rate ts a day).2 (turnS rate ts a b day).1 (turnS rate ts a b day).2 = some (.b true) := by
  have hs := wellB_scale (scaleE_0 h).1
  have bA := drift_bnd (on := a) (known := day) hs
  have bB := drift_bnd (on := b) (known := day) hs
  have fA := drift_fits h a day
  have fT := turn_fits (a := a) (b := b) (day := day) h
  unfold endsRest
  by_cases hab : a = b
  · subst hab
    have e : absD a a = 0 := by unfold absD; omega
    have e1 : (turnS rate ts a a day).1 = 0 ∧ (turnS rate ts a a day).2 = 0 := by
      unfold turnS
      rw [e, Int.mul_zero]
      constructor
      · show max _ _ = _; omega
      · show min _ _ = _; omega
    rw [e1.1, e1.2]
    simp
  · have hab' : (a == b) = false := by simpa using hab
    rw [hab', cond_false]
    have b1 : bndB (driftS rate ts a day).1 = true := by simp [bndB]; omega
    have b2 : bndB (driftS rate ts a day).2 = true := by simp [bndB]; omega
    have bt : -3000000 ≤ (turnS rate ts a b day).1 ∧ (turnS rate ts a b day).2 ≤ 3000000 := by
      unfold turnS
      constructor
      · show _ ≤ max _ _; omega
      · show min _ _ ≤ _; omega
    have reach := fun n => reach_iff (a := a) (b := b) (day := day) h ha hb hd hab n
    have hstop : (upL (σ := Unit) (fun i _ => endStop no rate ts a b day (driftS rate ts a day).1 (driftS rate ts a day).2 (turnS rate ts a b day).1 (turnS rate ts a b day).2 (ra [((turnS rate ts a b day).1, ()), ((turnS rate ts a b day).2, ()), (turn, ())] i).1) (fun _ s => s) (List.length [((turnS rate ts a b day).1, ()), ((turnS rate ts a b day).2, ()), (turn, ())]) 0 ()).1 = false := by
      rw [upU_none (stop := fun i => endStop no rate ts a b day (driftS rate ts a day).1 (driftS rate ts a day).2 (turnS rate ts a b day).1 (turnS rate ts a b day).2 (ra [((turnS rate ts a b day).1, ()), ((turnS rate ts a b day).2, ()), (turn, ())] i).1)]
      intro j _ _
      unfold endStop
      generalize (ra [((turnS rate ts a b day).1, ()), ((turnS rate ts a b day).2, ()), (turn, ())] j).1 = n
      obtain ⟨r1, r2⟩ := reach n
      rw [r1]
      have e2 : reachB no rate ts a b day (driftS rate ts a day).1 (driftS rate ts a day).2 n = (decide ((turnS rate ts a b day).1 ≤ n) && decide (n ≤ (turnS rate ts a b day).2)) := by
        rw [Bool.eq_iff_iff, r2]; simp
      rw [e2]; simp
    have r1 := reach ((turnS rate ts a b day).1 - 1)
    have r2 := reach ((turnS rate ts a b day).2 + 1)
    have n1 : reachB no rate ts a b day (driftS rate ts a day).1 (driftS rate ts a day).2 ((turnS rate ts a b day).1 - 1) = false := by
      rw [← Bool.not_eq_true, r1.2]; omega
    have n2 : reachB no rate ts a b day (driftS rate ts a day).1 (driftS rate ts a day).2 ((turnS rate ts a b day).2 + 1) = false := by
      rw [← Bool.not_eq_true, r2.2]; omega
    rw [cond_pos (by rw [b1, b2]; simp [eqI, lenB]), cond_neg hstop, w64S (n := (turnS rate ts a b day).1 - 1) (by omega) (by omega), w64S (n := (turnS rate ts a b day).2 + 1) (by omega) (by omega), b1, b2, r1.1, r2.1, n1, n2]
    simp [fT]
theorem ask_bad {no rate : Int} {ts : List Test} {l m : List (Int × Unit)} (h : askE no rate ts l ≠ 0) (hl : ∀ i, i < l.length → ∃ j, j < m.length ∧ ra l i = ra m j) : askE no rate ts m ≠ 0 := by
  intro e
  obtain ⟨h1, h2⟩ := askE_0 e
  exact h (ask_cons h1 (fun i hi => by
    obtain ⟨j, hj, e⟩ := hl i hi
    rw [e]; exact h2 j hj))
theorem ask_1 {no rate : Int} {ts : List Test} {l m : List (Int × Unit)} (h : askE no rate ts l = 0) (hm : askE no rate ts m ≠ 0) : askE no rate ts m = 1 := by
  have h1 := (askE_0 h).1
  unfold askE at hm ⊢
  rw [h1] at hm ⊢
  cases hd : (daysU m).1 with
  | true => rfl
  | false => rw [hd] at hm; exact absurd rfl hm
theorem ends_ev (no rate a b day grams turn : Int) (ts : List Test) (fl : Bool) : evP P H21 7 [.agg [.i .i64 no, .i .i64 rate, .ls T26 ts fl], .i .i64 a, .i .i64 b, .i .i64 day, .i .i64 grams, .i .i64 turn] = some (.b true) := by
  refine (e7 no rate a b day grams turn ts fl).trans ?_
  by_cases hlen : (ts.length : Int) > 100
  · rw [cond_pos (by simpa using hlen)]
  rw [cond_neg (by simpa using hlen), neq0, neq0]
  by_cases hA : EA no rate ts a day = 0
  · by_cases hB : EB no rate ts a b day = 0
    · have hsc := (askE_0 hA).1
      have ha : dayB a = true := (askE_0 hA).2 0 (by simp)
      have hd : dayB day = true := (askE_0 hA).2 1 (by simp)
      have hb : dayB b = true := (askE_0 hB).2 1 (by simp)
      have hday := ask_day hA hd
      have x1 : XL no rate ts a day = (driftS rate ts a day).1 := by unfold XL spanIf; rw [hA]; rfl
      have x2 : XH no rate ts a day = (driftS rate ts a day).2 := by unfold XH spanIf; rw [hA]; rfl
      have y1 : YL no rate ts a b day = (turnS rate ts a b day).1 := by unfold YL spanIf; rw [hB]; rfl
      have y2 : YH no rate ts a b day = (turnS rate ts a b day).2 := by unfold YH spanIf; rw [hB]; rfl
      have e0 : histE no rate ts day [(a, ())] [(grams, ())] = 0 := histE0 hday rfl (rise1 ha)
      rw [hA, hB, cond_neg (by rfl), cond_neg (by rfl), x1, x2, y1, y2, e0, cond_neg (by rfl), histB0 e0, ends_rest turn hsc ha hb hd]
      by_cases h1 : (driftS rate ts a day).1 ≤ grams
      · rw [cond_pos (by simpa using h1), cond_neg]
        have : possB rate ts day [(a, ())] [(grams, ())] = decide (grams ≤ (driftS rate ts a day).2) := by
          rw [Bool.eq_iff_iff, poss1]; simp [h1]
        rw [this]; simp
      · rw [cond_neg (by simpa using h1), cond_neg]
        have : possB rate ts day [(a, ())] [(grams, ())] = false := by
          rw [← Bool.not_eq_true, poss1]; omega
        rw [this]; rfl
    · rw [hA, cond_neg (by rfl), cond_pos (by simp [eqI, hB])]
      exact endsErr0 rfl (ask_1 hA hB)
  · have hB : EB no rate ts a b day ≠ 0 := ask_bad hA (fun i hi => by
      have : i = 0 ∨ i = 1 := by simp at hi; omega
      rcases this with rfl | rfl
      · exact ⟨0, by simp, rfl⟩
      · exact ⟨2, by simp, rfl⟩)
    rw [cond_pos (by simp [eqI, hA])]
    have x1 : XL no rate ts a day = 0 := by unfold XL spanIf; rw [cond_neg (by simp [eqI]; exact hA)]
    have x2 : XH no rate ts a day = 0 := by unfold XH spanIf; rw [cond_neg (by simp [eqI]; exact hA)]
    have y1 : YL no rate ts a b day = 0 := by unfold YL spanIf; rw [cond_neg (by simp [eqI]; exact hB)]
    have y2 : YH no rate ts a b day = 0 := by unfold YH spanIf; rw [cond_neg (by simp [eqI]; exact hB)]
    rw [x1, x2, y1, y2]
    unfold endsErr
    rw [show ((0 : Int) == 0 && ((0 : Int) == 0 && true)) = true from rfl, cond_true, cond_true, neq0, neq0, cond_pos (by simp [eqI]; exact hA), cond_pos (by simp [eqI]; exact hB)]
end Go.Mini.Co
end
section
namespace Go.Proofs
open Go.Shelf
def Tryd.laysM171_ren : Go.Shelf.Ren := ⟨fun | 171 => 138 | 243 => 141 | 246 => 142 | 283 => 143 | 284 => 144 | 285 => 145 | 286 => 146 | 129 => 148 | 317 => 147 | 318 => 149 | 319 => 150 | 320 => 151 | 337 => 152 | 338 => 153 | n => n, fun | 3 => 3 | 9 => 9 | 2 => 2 | 4 => 4 | 171 => 164 | 0 => 0 | 53 => 165 | 37 => 140 | 5 => 5 | 173 => 168 | 212 => 172 | 51 => 173 | 20 => 20 | 213 => 174 | 46 => 137 | 232 => 177 | 233 => 178 | n => n, fun | 17 => 0 | 18 => 1 | 19 => 2 | n => n⟩
theorem Tryd.laysM171 : Go.Proofs.LaysM.n171 Tryd.prog Tryd.laysM171_ren := {
  mixed := by kernel_rfl
  f129 := Tryd.func148.trans (congrArg some (by kernel_rfl))
  f171 := Tryd.func138.trans (congrArg some (by kernel_rfl))
  f243 := Tryd.func141.trans (congrArg some (by kernel_rfl))
  f246 := Tryd.func142.trans (congrArg some (by kernel_rfl))
  f283 := Tryd.func143.trans (congrArg some (by kernel_rfl))
  f284 := Tryd.func144.trans (congrArg some (by kernel_rfl))
  f285 := Tryd.func145.trans (congrArg some (by kernel_rfl))
  f286 := Tryd.func146.trans (congrArg some (by kernel_rfl))
  f317 := Tryd.func147.trans (congrArg some (by kernel_rfl))
  f318 := Tryd.func149.trans (congrArg some (by kernel_rfl))
  f319 := Tryd.func150.trans (congrArg some (by kernel_rfl))
  f320 := Tryd.func151.trans (congrArg some (by kernel_rfl))
  f337 := Tryd.func152.trans (congrArg some (by kernel_rfl))
  f338 := Tryd.func153.trans (congrArg some (by kernel_rfl))
  t0 := Tryd.underlying0
  a0 := Tryd.isAgg0
  z0 := Tryd.sizeOf0
  v0 := Tryd.zeroValue0
  t2 := Tryd.underlying2
  a2 := Tryd.isAgg2
  z2 := Tryd.sizeOf2
  v2 := Tryd.zeroValue2
  t3 := Tryd.underlying3
  a3 := Tryd.isAgg3
  z3 := Tryd.sizeOf3
  v3 := Tryd.zeroValue3
  t4 := Tryd.underlying4
  a4 := Tryd.isAgg4
  z4 := Tryd.sizeOf4
  v4 := Tryd.zeroValue4
  t5 := Tryd.underlying5
  a5 := Tryd.isAgg5
  z5 := Tryd.sizeOf5
  v5 := Tryd.zeroValue5
  t9 := Tryd.underlying9
  a9 := Tryd.isAgg9
  z9 := Tryd.sizeOf9
  v9 := Tryd.zeroValue9
  t20 := Tryd.underlying20
  a20 := Tryd.isAgg20
  z20 := Tryd.sizeOf20
  v20 := Tryd.zeroValue20
  t37 := Tryd.underlying140
  a37 := Tryd.isAgg140
  z37 := Tryd.sizeOf140
  v37 := Tryd.zeroValue140
  t46 := Tryd.underlying137
  a46 := Tryd.isAgg137
  z46 := Tryd.sizeOf137
  v46 := Tryd.zeroValue137
  t51 := Tryd.underlying173
  a51 := Tryd.isAgg173
  z51 := Tryd.sizeOf173
  v51 := Tryd.zeroValue173
  t53 := Tryd.underlying165
  a53 := Tryd.isAgg165
  z53 := Tryd.sizeOf165
  v53 := Tryd.zeroValue165
  t171 := Tryd.underlying164
  a171 := Tryd.isAgg164
  z171 := Tryd.sizeOf164
  v171 := Tryd.zeroValue164
  t173 := Tryd.underlying168
  a173 := Tryd.isAgg168
  z173 := Tryd.sizeOf168
  v173 := Tryd.zeroValue168
  t212 := Tryd.underlying172
  a212 := Tryd.isAgg172
  z212 := Tryd.sizeOf172
  v212 := Tryd.zeroValue172
  t213 := Tryd.underlying174
  a213 := Tryd.isAgg174
  z213 := Tryd.sizeOf174
  t232 := Tryd.underlying177
  a232 := Tryd.isAgg177
  z232 := Tryd.sizeOf177
  v232 := Tryd.zeroValue177
  t233 := Tryd.underlying178
  a233 := Tryd.isAgg178
  z233 := Tryd.sizeOf178
  v233 := Tryd.zeroValue178
  g17 := by kernel_rfl
  g18 := by kernel_rfl
  g19 := by kernel_rfl
  i0 := by kernel_rfl
  i2 := by kernel_rfl
  i3 := by kernel_rfl
  i4 := by kernel_rfl
  i5 := by kernel_rfl
  i9 := by kernel_rfl
  i20 := by kernel_rfl
  i37 := by kernel_rfl
  i46 := by kernel_rfl
  i51 := by kernel_rfl
  i53 := by kernel_rfl
  i171 := by kernel_rfl
  i173 := by kernel_rfl
  i212 := by kernel_rfl
  i232 := by kernel_rfl
  i233 := by kernel_rfl
  m17 := by kernel_rfl
  m18 := by kernel_rfl
  m19 := by kernel_rfl }
open Go.RowKit Go.Sort Go.Lib in
/-- strconv.Itoa: "Itoa is equivalent to FormatInt(int64(i), 10).": i's DECIMAL NUMERAL ('Lib.itoa': a '-' where i is negative, then the digits), FOR EVERY int. The world behind the call: the world before it, new blocks behind the heap (the library's 'var a [24]byte'), draws. (LAID: no walk: one application.) -/
theorem Tryd.strconv_Itoa (n : Int) (h0 : -9223372036854775808 ≤ n) (h1 : n ≤ 9223372036854775807) (w : World) (htab : Lib.TabIs Tryd.prog w "internal/strconv.uint64pow10" .u64 Lib.pow10Tab) :
    Calls Tryd.prog 138 #[.int .i64 n] w fun e w' => e = .returned (.string ⟨(Lib.itoa n).toArray⟩) ∧ ∃ k os, w' = grow (w.drewN k) os := Any.strconv_Itoa Tryd.laysM171 n h0 h1 w htab
end Go.Proofs
end
section
set_option linter.unusedVariables false
set_option linter.unusedSimpArgs false
set_option maxRecDepth 100000
namespace Go.Mini.Co
open Go Go.Mini Go.RowKit
open Go.Proofs (Tryd.prog)
/-! Numerals; the chapter's examples. -/
def TabX (F : Fz) : Prop := F 0 = some ((Lib.pow10Tab.map fun z => Value.int .u64 z).toArray)
theorem TabX_mono : ∀ F F', TabX F → FLe F F' → TabX F' := fun F F' h hF => hF _ _ h
theorem base_ok : HooksOK P TabX noHooks := noHooks_ok TabX_mono (by kernel_rfl)
theorem tabG : P.globalNamed "internal/strconv.uint64pow10" = some 0 := by kernel_rfl
theorem tab_is {ρ F H W} (hX : TabX F) (hR : Rel ρ F H W) : Lib.TabIs P W "internal/strconv.uint64pow10" .u64 Lib.pow10Tab := by
  obtain ⟨e, fr, h⟩ := hR.fz 0 _ hX
  unfold Lib.TabIs World.var?
  rw [tabG]
  simp only [Option.bind_some, h]
noncomputable def h138 : List V → Option (Bool × V)
  | [.i .i64 n] => some (decide (-9223372036854775808 ≤ n) && decide (n ≤ 9223372036854775807), .s (Lib.itoa n))
  | _ => none
theorem ok138 : ∀ args v, h138 args = some (true, v) → Pure P TabX 138 args v := by
  intro args v hv
  unfold h138 at hv
  split at hv
  case h_2 => cases hv
  rename_i n
  simp only [Option.some.injEq, Prod.mk.injEq, Bool.and_eq_true, decide_eq_true_eq] at hv
  obtain ⟨⟨h0, h1⟩, rfl⟩ := hv
  refine ⟨⟨_, Go.Proofs.Tryd.func138, by kernel_rfl, by kernel_rfl⟩, fun ρ F W args' hX hR ha => ?_⟩
  obtain ⟨args'⟩ := args'
  simp only [VRels, VRel] at ha
  obtain ⟨x, r, rfl, rfl, rfl⟩ := ha
  refine (Go.Proofs.Tryd.strconv_Itoa n h0 h1 W (tab_is hX hR)).mono ?_
  rintro e W' ⟨rfl, k, os, rfl⟩
  have hb : Below W.heap.size W _ := Lib.below_grow _ W (Nat.le_refl _) k os
  obtain ⟨b1, b2, b3, b4, b5⟩ := hb
  refine ⟨_, fun _ => none, F, rfl, by simp only [VRel], ⟨fun m b hb => (by cases hb), fun m L hL => (by cases hL), fun m m' b b' j s n w s' n' w' hb => (by cases hb), fun j c hj => ?_⟩, ⟨fun m L hm => ?_, Nat.le_refl _, FLe.refl _, fun _ a b => absurd a b, fun j hj _ => b5 j hj, ?_, b4, b1, b2, b3⟩⟩
  · obtain ⟨e, fr, he⟩ := hR.fz j c hj
    exact ⟨e, fr, by rw [b5 j (Array.getElem?_eq_some_iff.1 he).1]; exact he⟩
  · have := hR.dom m L hm
    simp [hlen] at this
  · rintro j ⟨m, b, s, n, w, h, _⟩
    cases h
def closeS (f : FuncId) : Bool := Nat.ble 14 f && Nat.ble f 46 || Nat.beq f 68
noncomputable def hkS : Hooks := (noHooks.call1 138 h138).closing closeS
theorem hkS_ok : HooksOK P TabX hkS := (base_ok.call1 ok138).closing closeS
theorem sane_ev : evP P (deepen P hkS 40) 13 [] = some (.b true) := by kernel_rfl
theorem ok13 : ∀ args v, h13 args = some (true, v) → Pure P TabX 13 args v := by
  intro args v hv
  unfold h13 at hv
  split at hv
  case h_2 => cases hv
  simp only [Option.some.injEq, Prod.mk.injEq, true_and] at hv
  subst hv
  exact evP_sound (deepen_ok hkS_ok 40) sane_ev
end Go.Mini.Co
end
section
set_option linter.unusedVariables false
set_option maxRecDepth 100000
namespace Go.Proofs.YtapijkdgkajoeaaDoor
open Go.ChangeShapes Go.WideShapes Go.ChangeAt Go.RowKit
/-! What a call's arguments lie in; the table of the numerals. -/
section
variable {H : Type} {enc : TypeId × Value → H} {w : World} {v : Value} {d : DataW H} {p : List MemPlace}
theorem argLt {t : Nat} (h : DataW.Trod enc Tryd.prog w 0 (fun _ => true) true t v d p) : ∀ x ∈ p, x.block < w.heap.size := by
  obtain ⟨m, hm⟩ := h
  exact DataW.trod_lt m _ _ _ hm
end
/-- The three listed variables. -/
def laid3 : List (String × DataW Unit) := [("math/bits.deBruijn32tab", Rows.laid_math_bits_deBruijn32tab), ("math/bits.deBruijn64tab", Rows.laid_math_bits_deBruijn64tab), ("internal/strconv.uint64pow10", Rows.laid_internal_strconv_uint64pow10)]
theorem tab_of_laid {W : World} (h : laidMetH Tryd.prog laid3 W) : Mini.Co.TabX (Mini.ownF W) := by
  rw [MakeChecks.laidMetH_plain _ _ _ (by kernel_rfl)] at h
  obtain ⟨ps, ⟨_, _, _, _, _, _, _, _, _, _, ⟨_, _, _, _, _, _, _, _, _, _, ⟨g', t', cs, fuel, p, q, hg', ht', hvar, hd, _, _⟩, _⟩, _⟩, _⟩ := h
  obtain rfl := Option.some.inj (Mini.Co.tabG.symm.trans hg')
  obtain rfl := Option.some.inj ((show (Tryd.prog.globals[0]?).map (·.type) = some 172 by kernel_rfl).symm.trans ht')
  have hcs : cs = (Lib.pow10Tab.map fun z => Value.int .u64 z).toArray := by
    rw [← Lib.cells_of_tab (k := .u64) (zs := Lib.pow10Tab) Tryd.underlying172 Tryd.underlying165 (by kernel_rfl) (by kernel_rfl) hd]
  rw [hcs] at hvar
  unfold World.var? at hvar
  rw [Mini.Co.tabG] at hvar
  simp only [Option.bind_some] at hvar
  unfold Mini.Co.TabX Mini.ownF
  split at hvar
  · rename_i c e fr hc
    rw [hc]
    exact hvar
  · cases hvar
set_option maxRecDepth 100000 in
/-- The door's own heap meets the condition. -/
theorem door_met (os : Os) (args : Array Value) : laidMetH Tryd.prog laid3 ((World.doorLaid Tryd.prog 24 os).forCall (fun _ _ => 0) ⟨#[], args, []⟩).memory :=
  laidMetH_of_parts3 (fuel := 8) (laidMet_of_run' 8 (by kernel_rfl) (by kernel_rfl)) (by kernel_rfl) (by kernel_rfl)
theorem laidOut : laidOutB Tryd.prog = true := by kernel_rfl
theorem ownNo : ownKnob Tryd.prog.godebug = none := by kernel_rfl
end Go.Proofs.YtapijkdgkajoeaaDoor
end
section
namespace Go.Mini.Co
open Go Go.Mini
theorem H21_ok : HooksOK P TabX H21 := ((H20_ok base_ok).loop1 (lok7 base_ok)).call1 ok13
theorem ends_pure (no rate a b day grams turn : Int) (ts : List Test) (fl : Bool) : Pure P TabX 7 [.agg [.i .i64 no, .i .i64 rate, .ls T26 ts fl], .i .i64 a, .i .i64 b, .i .i64 day, .i .i64 grams, .i .i64 turn] (.b true) :=
  evP_sound H21_ok (ends_ev no rate a b day grams turn ts fl)
end Go.Mini.Co
end
section
/- For every input that is laid in the world, with the listed tables as_ the program's text lays them, the law CourseEnds returns true, and its arguments read as_ before; no condition. -/
set_option linter.unusedVariables false
namespace Go.Proofs.YtapijkdgkajoeaaDoor
open Go.ChangeShapes Go.WideShapes Go.ChangeAt Go.RowKit

set_option maxRecDepth 100000 in
theorem courseEnds_lifted (os : Os) (started : os.Started) (H : Type) (enc : TypeId × Value → H) :
    ReturnsInHanded {} Tryd.checked os 7 .any (fun w args => (Rows.courseEndsSpec.pre enc Tryd.prog Tryd.f7 [] false w args ∧ laidMetH Tryd.prog laid3 w) ∧ sizedMet enc Tryd.prog Tryd.f7 (OpenSpec.ofChange Rows.courseEndsSpec) false w args)
      (Rows.courseEndsSpec.post enc Tryd.prog Tryd.f7 false true false false) := by
  refine returnsInHanded_of_change_and (C := Tryd.checked) (X := fun w _ => laidMetH Tryd.prog laid3 w) (fun _ _ _ hh h => h.of_heap hh) ownNo started (by kernel_rfl) Tryd.func7
    (ChangeSpec.witness_shaped (enc := enc) (C := Tryd.checked) (os := os) (X := fun w _ => laidMetH Tryd.prog laid3 w) false (World.doorLaid Tryd.prog 24 os)
      #[.agg #[.int .i64 0, .int .i64 0, .slice none 0 0], .int .i64 0, .int .i64 0, .int .i64 0, .int .i64 0, .int .i64 0] 8 rfl (World.shaped_of_RefB (by kernel_rfl) (by kernel_rfl)) (by kernel_rfl) (by kernel_rfl) (by kernel_rfl) (door_met os _)) ?_
  intro W base args ds gs before hval0 hW _ _ hL _
  have hval : ∀ (j : Nat) t v, Tryd.f7.params[j]? = some t → args[j]? = some v → Value.okWide Tryd.prog W .any base t v := hval0
  have hW' := hW
  obtain ⟨p, q, hA0, hV, rfl, hfz, hnd⟩ := hW
  have hA : DataW.TrodAll enc Tryd.prog W 0 (fun _ => true) true Tryd.f7.params.toList args.toList ds p := hA0
  rw [Tryd.params7] at hA hval
  obtain ⟨v0, vs0, d0, ds0, p0, q0, hargs, rfl, rfl, h0, k0⟩ := trodAll_cons hA
  obtain ⟨v1, vs1, d1, ds1, p1, q1, rfl, rfl, rfl, h1, k1⟩ := trodAll_cons k0
  obtain ⟨v2, vs2, d2, ds2, p2, q2, rfl, rfl, rfl, h2, k2⟩ := trodAll_cons k1
  obtain ⟨v3, vs3, d3, ds3, p3, q3, rfl, rfl, rfl, h3, k3⟩ := trodAll_cons k2
  obtain ⟨v4, vs4, d4, ds4, p4, q4, rfl, rfl, rfl, h4, k4⟩ := trodAll_cons k3
  obtain ⟨v5, vs5, d5, ds5, p5, q5, rfl, rfl, rfl, h5, k5⟩ := trodAll_cons k4
  obtain ⟨rfl, rfl, rfl⟩ := trodAll_nil k5
  obtain rfl : args = #[v0, v1, v2, v3, v4, v5] := by cases args; simp_all
  obtain ⟨rfl, rfl⟩ := trodVars_none hV
  have lt0 := argLt h0
  have lt1 := argLt h1
  have lt2 := argLt h2
  have lt3 := argLt h3
  have lt4 := argLt h4
  have lt5 := argLt h5
  obtain ⟨r0, o0, g0⟩ := Mini.argAgg 9 (show Mini.flat Tryd.prog 9 24 = some [.i .i64, .i .i64, .sl [.i .i64, .i .i64, .i .i64, .i .i64]] by kernel_rfl) (by kernel_rfl) (hval 0 24 v0 rfl rfl) h0
  obtain ⟨r1, o1, g1⟩ := Mini.argOne 9 (show Mini.flat Tryd.prog 9 3 = some [.i .i64] by kernel_rfl) (by kernel_rfl) (hval 1 3 v1 rfl rfl) h1
  obtain ⟨r2, o2, g2⟩ := Mini.argOne 9 (show Mini.flat Tryd.prog 9 3 = some [.i .i64] by kernel_rfl) (by kernel_rfl) (hval 2 3 v2 rfl rfl) h2
  obtain ⟨r3, o3, g3⟩ := Mini.argOne 9 (show Mini.flat Tryd.prog 9 3 = some [.i .i64] by kernel_rfl) (by kernel_rfl) (hval 3 3 v3 rfl rfl) h3
  obtain ⟨r4, o4, g4⟩ := Mini.argOne 9 (show Mini.flat Tryd.prog 9 3 = some [.i .i64] by kernel_rfl) (by kernel_rfl) (hval 4 3 v4 rfl rfl) h4
  obtain ⟨r5, o5, g5⟩ := Mini.argOne 9 (show Mini.flat Tryd.prog 9 3 = some [.i .i64] by kernel_rfl) (by kernel_rfl) (hval 5 3 v5 rfl rfl) h5
  clear hA0 hval0
  have hv : Mini.VRels (fun _ => none) (Mini.ownF W) [.agg (Mini.rowV [.i .i64, .i .i64, .sl [.i .i64, .i .i64, .i .i64, .i .i64]] r0), Mini.cellV (.i .i64) r1, Mini.cellV (.i .i64) r2, Mini.cellV (.i .i64) r3, Mini.cellV (.i .i64) r4, Mini.cellV (.i .i64) r5] (#[v0, v1, v2, v3, v4, v5] : Array Value).toList := by
    simp only [Mini.VRels]
    exact ⟨_, _, rfl, g0 _, ⟨_, _, rfl, g1 _, ⟨_, _, rfl, g2 _, ⟨_, _, rfl, g3 _, ⟨_, _, rfl, g4 _, ⟨_, _, rfl, g5 _, rfl⟩⟩⟩⟩⟩⟩
  have hcall : Mini.Pure Tryd.prog Mini.Co.TabX 7 [.agg (Mini.rowV [.i .i64, .i .i64, .sl [.i .i64, .i .i64, .i .i64, .i .i64]] r0), Mini.cellV (.i .i64) r1, Mini.cellV (.i .i64) r2, Mini.cellV (.i .i64) r3, Mini.cellV (.i .i64) r4, Mini.cellV (.i .i64) r5] (.b true) := Mini.Co.ends_pure r0.1 r0.2.1 r1 r2 r3 r4 r5 r0.2.2.1 false
  refine (Mini.calls_true hcall.2 (tab_of_laid hL) hv).mono fun e W' ⟨he, bel⟩ => ?_
  subst he
  exact ⟨_, rfl, _, _, _, [], _, [], hW', trodAll_mk1 (shut_bool Tryd.underlying4 _), (trodAll_cons_mk (Below.trod laidOut (by kernel_rfl) (of_decide_eq_true (by kernel_rfl)) h0 bel lt0) (trodAll_cons_mk (Below.trod laidOut (by kernel_rfl) (of_decide_eq_true (by kernel_rfl)) h1 bel lt1) (trodAll_cons_mk (Below.trod laidOut (by kernel_rfl) (of_decide_eq_true (by kernel_rfl)) h2 bel lt2) (trodAll_cons_mk (Below.trod laidOut (by kernel_rfl) (of_decide_eq_true (by kernel_rfl)) h3 bel lt3) (trodAll_cons_mk (Below.trod laidOut (by kernel_rfl) (of_decide_eq_true (by kernel_rfl)) h4 bel lt4) (trodAll_cons_mk (Below.trod laidOut (by kernel_rfl) (of_decide_eq_true (by kernel_rfl)) h5 bel lt5) trodAll_mk0)))))), rfl, bel.frame _, fun h => by cases h⟩

theorem courseEnds_row_holds : Rows.CourseEndsSaid :=
  OpenClaim.holds_of_wide 7 Tryd.f7 rfl rfl rfl rfl rfl rfl rfl ⟨rfl, rfl, rfl, rfl, rfl⟩ rfl rfl rfl rfl rfl (by kernel_rfl) Tryd.func7 (by kernel_rfl)
    (of_decide_eq_true (by kernel_rfl)) (by unfold Func.isWrapper; first | (rw [if_pos (by decide +kernel)]; kernel_rfl) | (rw [if_neg (by decide +kernel)]; exact ⟨rfl, rfl⟩))
    (fun os started H enc _ => courseEnds_lifted os started H enc)

/-- The tied card of CourseEnds. -/
theorem courseEnds_card_holds : Rows.CourseEndsCardSaid :=
  Claim7.holds_tied_plain_at .later [] [.data, .data, .data] true (true, "2280f43e37630aca62f1f244f2a23adb94f0c0035697a9b1153db5b69b706103") false
    courseEnds_row_holds (fun _ h => by cases h) (by kernel_rfl) (fun _ h => by cases h) courseEnds_row_tie rfl ⟨rfl, rfl⟩ (by kernel_rfl) rfl
    (fun f fn hf hfn => by
      obtain rfl : f = 7 := Option.some.inj ((show Tryd.prog.funcNamed "snowline/snowlinelaw01.CourseEnds" = some 7 by kernel_rfl).symm.trans hf) |>.symm
      obtain rfl : fn = Tryd.f7 := (Option.some.inj (Tryd.func7.symm.trans hfn)).symm
      exact ⟨by kernel_rfl, fun j t ht => by
        rw [Tryd.params7] at ht
        have hm : t ∈ [24, 3, 3, 3, 3, 3] := by simpa using Array.mem_of_getElem? ht
        have hall : ([24, 3, 3, 3, 3, 3].all fun u => !Tryd.prog.wantsStandIn u) = true := by kernel_rfl
        exact (show Tryd.prog.wantsStandIn t = false by simpa using List.all_eq_true.1 hall t hm)⟩)
    (by kernel_rfl)
end Go.Proofs.YtapijkdgkajoeaaDoor
end
