/- For every input that is laid in the world, with the listed tables as the program text lays them, the law CourseMore returns true, and its arguments read as before; no condition. Part 4 of 4. -/
import Derived.Test.YtapijkdgkajoeaaDoorMoC
import Derived.KernelRfl
import Derived.Shelf.Strconv.Itoa0
import Derived.Shelf.Strconv.Itoa1
import Derived.Shelf.LaysM
import Derived.Shelf.Strconv.Itoa2
import Derived.Shelf.Strconv.Itoa3
import Derived.Test.YtapijkdgkajoeaaDoorProg
import Derived.Lib.LaidTab
import Derived.Lib.AppendIntMem
import Derived.Test.YtapijkdgkajoeaaDoorRows
import Derived.ProofKit
import Derived.LaidMore
import Derived.LaidHandle
import Derived.MakeChecks
import Derived.OpenShut
import Derived.ChangeOld
import Derived.Test.YtapijkdgkajoeaaDoorCards
import Derived.Test.YtapijkdgkajoeaaDoorTie
import Derived.Stop.Joined
import Derived.SevenTiedAt
section
set_option linter.unusedVariables false
set_option linter.unusedSimpArgs false
set_option maxRecDepth 100000
namespace Go.Mini.Co
open Go Go.Mini
variable {X : Fz → Prop}
/-! CourseMore: the six questions. -/
/-- What the questions are asked about. -/
structure Ask where
  sh : Sh
  at_ : Int
  d0 : Int
  d1 : Int
def mE (v : Nat) (q : Ask) (no rate : Int) (ts : List Test) (kn : Int) : Int :=
  match v with
  | 0 => askE no rate ts [(q.d0, ()), (kn, ())]
  | 1 => askE no rate ts [(q.d0, ()), (q.d1, ()), (kn, ())]
  | 2 => lookE no rate ts q.sh q.at_ kn
  | 3 => lookE no rate ts q.sh q.at_ kn
  | 4 => densE no rate ts q.sh q.at_ kn
  | _ => lookE no rate ts q.sh 0 kn
def mR (v : Nat) (q : Ask) (rate : Int) (ts : List Test) (kn : Int) : Int × Int :=
  match v with
  | 0 => driftS rate ts q.d0 kn
  | 1 => turnS rate ts q.d0 q.d1 kn
  | 2 => coreE rate ts q.sh q.at_ kn
  | 3 => waterS rate ts q.sh q.at_ kn
  | 4 => densS rate ts q.sh q.at_ kn
  | _ => courseS rate ts q.sh kn
def mL (v : Nat) (q : Ask) (no rate : Int) (ts : List Test) (kn : Int) : Int := spanIf (mE v q no rate ts kn) (mR v q rate ts kn).1
def mH (v : Nat) (q : Ask) (no rate : Int) (ts : List Test) (kn : Int) : Int := spanIf (mE v q no rate ts kn) (mR v q rate ts kn).2
def insideB (a b c d : Int) : Bool := decide (c ≤ a) && decide (b ≤ d)
theorem e47 (a b c d : Int) : evP P K16 47 [.agg [.i .i64 a, .i .i64 b], .agg [.i .i64 c, .i .i64 d]] = bif decide (c ≤ a) then some (.b (decide (b ≤ d))) else some (.b false) := by kernel_rfl
noncomputable def h47 : List V → Option (Bool × V)
  | [.agg [.i .i64 a, .i .i64 b], .agg [.i .i64 c, .i .i64 d]] => some (true, .b (insideB a b c d))
  | _ => none
theorem okk47 (h : HooksOK P X noHooks) (a : Int) (b : Int) (c : Int) (d : Int)  : Pure P X 47 [.agg [.i .i64 a, .i .i64 b], .agg [.i .i64 c, .i .i64 d]] (.b (insideB a b c d)) := by

  refine evP_sound (K16_ok h) ((e47 a b c d).trans ?_)
  unfold insideB
  cases decide (c ≤ a) <;> rfl
theorem ok47 (h : HooksOK P X noHooks) : ∀ args v, h47 args = some (true, v) → Pure P X 47 args v := by
  intro args v hv
  unfold h47 at hv
  split at hv
  case h_2 => cases hv
  rename_i a b c d
  simp only [Option.some.injEq, Prod.mk.injEq, Bool.and_eq_true, eqI_s, true_and] at hv
  subst hv
  exact okk47 h _ _ _ _ 
noncomputable def h39 (args : List V) (H : Heap) : Option (Bool × V) := match args, H with
  | [.agg [.i .i64 no, .i .i64 rate, .ls [.i .i64, .i .i64, .i .i64, .i .i64] ts fl], .i .i64 kn, .p 0 0], [.c 61 [.i .i64 d0, .i .i64 d1, .i .i64 d2, .i .i64 d3]] => some (true, .tup [.agg [.i .i64 (mL 0 ⟨⟨0, 0, 0, 0, 0, 0, 0, 0, []⟩, 0, d0, d1⟩ no rate ts kn), .i .i64 (mH 0 ⟨⟨0, 0, 0, 0, 0, 0, 0, 0, []⟩, 0, d0, d1⟩ no rate ts kn)], .i .i64 (mE 0 ⟨⟨0, 0, 0, 0, 0, 0, 0, 0, []⟩, 0, d0, d1⟩ no rate ts kn)])
  | _, _ => none
theorem okk39 (h : HooksOK P X noHooks) (no : Int) (rate : Int) (ts : List Test) (fl : Bool) (kn : Int) (d0 : Int) (d1 : Int) (d2 : Int) (d3 : Int)  : Enters P 39 ∧ CallV P X 39 [.agg [.i .i64 no, .i .i64 rate, .ls T26 ts fl], .i .i64 kn, .p 0 0] [.c 61 [.i .i64 d0, .i .i64 d1, .i .i64 d2, .i .i64 d3]] (.tup [.agg [.i .i64 (mL 0 ⟨⟨0, 0, 0, 0, 0, 0, 0, 0, []⟩, 0, d0, d1⟩ no rate ts kn), .i .i64 (mH 0 ⟨⟨0, 0, 0, 0, 0, 0, 0, 0, []⟩, 0, d0, d1⟩ no rate ts kn)], .i .i64 (mE 0 ⟨⟨0, 0, 0, 0, 0, 0, 0, 0, []⟩, 0, d0, d1⟩ no rate ts kn)]) [.c 61 [.i .i64 d0, .i .i64 d1, .i .i64 d2, .i .i64 d3]] [] := by

  exact evB_sound (K16_ok h) (show evB P K16 39 [.agg [.i .i64 no, .i .i64 rate, .ls T26 ts fl], .i .i64 kn, .p 0 0] [.c 61 [.i .i64 d0, .i .i64 d1, .i .i64 d2, .i .i64 d3]] = some (.tup [.agg [.i .i64 (mL 0 ⟨⟨0, 0, 0, 0, 0, 0, 0, 0, []⟩, 0, d0, d1⟩ no rate ts kn), .i .i64 (mH 0 ⟨⟨0, 0, 0, 0, 0, 0, 0, 0, []⟩, 0, d0, d1⟩ no rate ts kn)], .i .i64 (mE 0 ⟨⟨0, 0, 0, 0, 0, 0, 0, 0, []⟩, 0, d0, d1⟩ no rate ts kn)], [.c 61 [.i .i64 d0, .i .i64 d1, .i .i64 d2, .i .i64 d3]]) by kernel_rfl)
theorem ok39 (h : HooksOK P X noHooks) : ∀ args H v, h39 args H = some (true, v) → Enters P 39 ∧ CallV P X 39 args H v H [] := by
  intro args H v hv
  unfold h39 at hv
  split at hv
  case h_2 => cases hv
  rename_i no rate ts fl kn d0 d1 d2 d3
  simp only [Option.some.injEq, Prod.mk.injEq, Bool.and_eq_true, eqI_s, true_and] at hv
  subst hv
  exact okk39 h _ _ _ _ _ _ _ _ _ 
noncomputable def h40 (args : List V) (H : Heap) : Option (Bool × V) := match args, H with
  | [.agg [.i .i64 no, .i .i64 rate, .ls [.i .i64, .i .i64, .i .i64, .i .i64] ts fl], .i .i64 kn, .p 0 0], [.c 61 [.i .i64 d0, .i .i64 d1, .i .i64 d2, .i .i64 d3]] => some (true, .tup [.agg [.i .i64 (mL 1 ⟨⟨0, 0, 0, 0, 0, 0, 0, 0, []⟩, 0, d0, d1⟩ no rate ts kn), .i .i64 (mH 1 ⟨⟨0, 0, 0, 0, 0, 0, 0, 0, []⟩, 0, d0, d1⟩ no rate ts kn)], .i .i64 (mE 1 ⟨⟨0, 0, 0, 0, 0, 0, 0, 0, []⟩, 0, d0, d1⟩ no rate ts kn)])
  | _, _ => none
theorem okk40 (h : HooksOK P X noHooks) (no : Int) (rate : Int) (ts : List Test) (fl : Bool) (kn : Int) (d0 : Int) (d1 : Int) (d2 : Int) (d3 : Int)  : Enters P 40 ∧ CallV P X 40 [.agg [.i .i64 no, .i .i64 rate, .ls T26 ts fl], .i .i64 kn, .p 0 0] [.c 61 [.i .i64 d0, .i .i64 d1, .i .i64 d2, .i .i64 d3]] (.tup [.agg [.i .i64 (mL 1 ⟨⟨0, 0, 0, 0, 0, 0, 0, 0, []⟩, 0, d0, d1⟩ no rate ts kn), .i .i64 (mH 1 ⟨⟨0, 0, 0, 0, 0, 0, 0, 0, []⟩, 0, d0, d1⟩ no rate ts kn)], .i .i64 (mE 1 ⟨⟨0, 0, 0, 0, 0, 0, 0, 0, []⟩, 0, d0, d1⟩ no rate ts kn)]) [.c 61 [.i .i64 d0, .i .i64 d1, .i .i64 d2, .i .i64 d3]] [] := by

  exact evB_sound (K16_ok h) (show evB P K16 40 [.agg [.i .i64 no, .i .i64 rate, .ls T26 ts fl], .i .i64 kn, .p 0 0] [.c 61 [.i .i64 d0, .i .i64 d1, .i .i64 d2, .i .i64 d3]] = some (.tup [.agg [.i .i64 (mL 1 ⟨⟨0, 0, 0, 0, 0, 0, 0, 0, []⟩, 0, d0, d1⟩ no rate ts kn), .i .i64 (mH 1 ⟨⟨0, 0, 0, 0, 0, 0, 0, 0, []⟩, 0, d0, d1⟩ no rate ts kn)], .i .i64 (mE 1 ⟨⟨0, 0, 0, 0, 0, 0, 0, 0, []⟩, 0, d0, d1⟩ no rate ts kn)], [.c 61 [.i .i64 d0, .i .i64 d1, .i .i64 d2, .i .i64 d3]]) by kernel_rfl)
theorem ok40 (h : HooksOK P X noHooks) : ∀ args H v, h40 args H = some (true, v) → Enters P 40 ∧ CallV P X 40 args H v H [] := by
  intro args H v hv
  unfold h40 at hv
  split at hv
  case h_2 => cases hv
  rename_i no rate ts fl kn d0 d1 d2 d3
  simp only [Option.some.injEq, Prod.mk.injEq, Bool.and_eq_true, eqI_s, true_and] at hv
  subst hv
  exact okk40 h _ _ _ _ _ _ _ _ _ 
noncomputable def h41 (args : List V) (H : Heap) : Option (Bool × V) := match args, H with
  | [.agg [.i .i64 no, .i .i64 rate, .ls [.i .i64, .i .i64, .i .i64, .i .i64] ts fl], .i .i64 kn, .p 0 0, .p 1 0], [.c 47 [.i .i64 n1, .i .i64 n2, .i .i64 n3, .i .i64 n4, .i .i64 n5, .i .i64 n6, .i .i64 n7, .i .i64 n8, .ls [.i .i64, .i .i64, .i .i64, .i .i64, .i .i64] sk sf], .c 3 [.i .i64 stake]] => some (true, .tup [.agg [.i .i64 (mL 2 ⟨⟨n1, n2, n3, n4, n5, n6, n7, n8, sk⟩, stake, 0, 0⟩ no rate ts kn), .i .i64 (mH 2 ⟨⟨n1, n2, n3, n4, n5, n6, n7, n8, sk⟩, stake, 0, 0⟩ no rate ts kn)], .i .i64 (mE 2 ⟨⟨n1, n2, n3, n4, n5, n6, n7, n8, sk⟩, stake, 0, 0⟩ no rate ts kn)])
  | _, _ => none
theorem okk41 (h : HooksOK P X noHooks) (no : Int) (rate : Int) (ts : List Test) (fl : Bool) (kn : Int) (n1 : Int) (n2 : Int) (n3 : Int) (n4 : Int) (n5 : Int) (n6 : Int) (n7 : Int) (n8 : Int) (sk : List Stk) (sf : Bool) (stake : Int)  : Enters P 41 ∧ CallV P X 41 [.agg [.i .i64 no, .i .i64 rate, .ls T26 ts fl], .i .i64 kn, .p 0 0, .p 1 0] [.c 47 [.i .i64 n1, .i .i64 n2, .i .i64 n3, .i .i64 n4, .i .i64 n5, .i .i64 n6, .i .i64 n7, .i .i64 n8, .ls T71 sk sf], .c 3 [.i .i64 stake]] (.tup [.agg [.i .i64 (mL 2 ⟨⟨n1, n2, n3, n4, n5, n6, n7, n8, sk⟩, stake, 0, 0⟩ no rate ts kn), .i .i64 (mH 2 ⟨⟨n1, n2, n3, n4, n5, n6, n7, n8, sk⟩, stake, 0, 0⟩ no rate ts kn)], .i .i64 (mE 2 ⟨⟨n1, n2, n3, n4, n5, n6, n7, n8, sk⟩, stake, 0, 0⟩ no rate ts kn)]) [.c 47 [.i .i64 n1, .i .i64 n2, .i .i64 n3, .i .i64 n4, .i .i64 n5, .i .i64 n6, .i .i64 n7, .i .i64 n8, .ls T71 sk sf], .c 3 [.i .i64 stake]] [] := by

  exact evB_sound (K16_ok h) (show evB P K16 41 [.agg [.i .i64 no, .i .i64 rate, .ls T26 ts fl], .i .i64 kn, .p 0 0, .p 1 0] [.c 47 [.i .i64 n1, .i .i64 n2, .i .i64 n3, .i .i64 n4, .i .i64 n5, .i .i64 n6, .i .i64 n7, .i .i64 n8, .ls T71 sk sf], .c 3 [.i .i64 stake]] = some (.tup [.agg [.i .i64 (mL 2 ⟨⟨n1, n2, n3, n4, n5, n6, n7, n8, sk⟩, stake, 0, 0⟩ no rate ts kn), .i .i64 (mH 2 ⟨⟨n1, n2, n3, n4, n5, n6, n7, n8, sk⟩, stake, 0, 0⟩ no rate ts kn)], .i .i64 (mE 2 ⟨⟨n1, n2, n3, n4, n5, n6, n7, n8, sk⟩, stake, 0, 0⟩ no rate ts kn)], [.c 47 [.i .i64 n1, .i .i64 n2, .i .i64 n3, .i .i64 n4, .i .i64 n5, .i .i64 n6, .i .i64 n7, .i .i64 n8, .ls T71 sk sf], .c 3 [.i .i64 stake]]) by kernel_rfl)
theorem ok41 (h : HooksOK P X noHooks) : ∀ args H v, h41 args H = some (true, v) → Enters P 41 ∧ CallV P X 41 args H v H [] := by
  intro args H v hv
  unfold h41 at hv
  split at hv
  case h_2 => cases hv
  rename_i no rate ts fl kn n1 n2 n3 n4 n5 n6 n7 n8 sk sf stake
  simp only [Option.some.injEq, Prod.mk.injEq, Bool.and_eq_true, eqI_s, true_and] at hv
  subst hv
  exact okk41 h _ _ _ _ _ _ _ _ _ _ _ _ _ _ _ _ 
noncomputable def h42 (args : List V) (H : Heap) : Option (Bool × V) := match args, H with
  | [.agg [.i .i64 no, .i .i64 rate, .ls [.i .i64, .i .i64, .i .i64, .i .i64] ts fl], .i .i64 kn, .p 0 0, .p 1 0], [.c 47 [.i .i64 n1, .i .i64 n2, .i .i64 n3, .i .i64 n4, .i .i64 n5, .i .i64 n6, .i .i64 n7, .i .i64 n8, .ls [.i .i64, .i .i64, .i .i64, .i .i64, .i .i64] sk sf], .c 3 [.i .i64 stake]] => some (true, .tup [.agg [.i .i64 (mL 3 ⟨⟨n1, n2, n3, n4, n5, n6, n7, n8, sk⟩, stake, 0, 0⟩ no rate ts kn), .i .i64 (mH 3 ⟨⟨n1, n2, n3, n4, n5, n6, n7, n8, sk⟩, stake, 0, 0⟩ no rate ts kn)], .i .i64 (mE 3 ⟨⟨n1, n2, n3, n4, n5, n6, n7, n8, sk⟩, stake, 0, 0⟩ no rate ts kn)])
  | _, _ => none
theorem okk42 (h : HooksOK P X noHooks) (no : Int) (rate : Int) (ts : List Test) (fl : Bool) (kn : Int) (n1 : Int) (n2 : Int) (n3 : Int) (n4 : Int) (n5 : Int) (n6 : Int) (n7 : Int) (n8 : Int) (sk : List Stk) (sf : Bool) (stake : Int)  : Enters P 42 ∧ CallV P X 42 [.agg [.i .i64 no, .i .i64 rate, .ls T26 ts fl], .i .i64 kn, .p 0 0, .p 1 0] [.c 47 [.i .i64 n1, .i .i64 n2, .i .i64 n3, .i .i64 n4, .i .i64 n5, .i .i64 n6, .i .i64 n7, .i .i64 n8, .ls T71 sk sf], .c 3 [.i .i64 stake]] (.tup [.agg [.i .i64 (mL 3 ⟨⟨n1, n2, n3, n4, n5, n6, n7, n8, sk⟩, stake, 0, 0⟩ no rate ts kn), .i .i64 (mH 3 ⟨⟨n1, n2, n3, n4, n5, n6, n7, n8, sk⟩, stake, 0, 0⟩ no rate ts kn)], .i .i64 (mE 3 ⟨⟨n1, n2, n3, n4, n5, n6, n7, n8, sk⟩, stake, 0, 0⟩ no rate ts kn)]) [.c 47 [.i .i64 n1, .i .i64 n2, .i .i64 n3, .i .i64 n4, .i .i64 n5, .i .i64 n6, .i .i64 n7, .i .i64 n8, .ls T71 sk sf], .c 3 [.i .i64 stake]] [] := by

  exact evB_sound (K16_ok h) (show evB P K16 42 [.agg [.i .i64 no, .i .i64 rate, .ls T26 ts fl], .i .i64 kn, .p 0 0, .p 1 0] [.c 47 [.i .i64 n1, .i .i64 n2, .i .i64 n3, .i .i64 n4, .i .i64 n5, .i .i64 n6, .i .i64 n7, .i .i64 n8, .ls T71 sk sf], .c 3 [.i .i64 stake]] = some (.tup [.agg [.i .i64 (mL 3 ⟨⟨n1, n2, n3, n4, n5, n6, n7, n8, sk⟩, stake, 0, 0⟩ no rate ts kn), .i .i64 (mH 3 ⟨⟨n1, n2, n3, n4, n5, n6, n7, n8, sk⟩, stake, 0, 0⟩ no rate ts kn)], .i .i64 (mE 3 ⟨⟨n1, n2, n3, n4, n5, n6, n7, n8, sk⟩, stake, 0, 0⟩ no rate ts kn)], [.c 47 [.i .i64 n1, .i .i64 n2, .i .i64 n3, .i .i64 n4, .i .i64 n5, .i .i64 n6, .i .i64 n7, .i .i64 n8, .ls T71 sk sf], .c 3 [.i .i64 stake]]) by kernel_rfl)
theorem ok42 (h : HooksOK P X noHooks) : ∀ args H v, h42 args H = some (true, v) → Enters P 42 ∧ CallV P X 42 args H v H [] := by
  intro args H v hv
  unfold h42 at hv
  split at hv
  case h_2 => cases hv
  rename_i no rate ts fl kn n1 n2 n3 n4 n5 n6 n7 n8 sk sf stake
  simp only [Option.some.injEq, Prod.mk.injEq, Bool.and_eq_true, eqI_s, true_and] at hv
  subst hv
  exact okk42 h _ _ _ _ _ _ _ _ _ _ _ _ _ _ _ _ 
noncomputable def h43 (args : List V) (H : Heap) : Option (Bool × V) := match args, H with
  | [.agg [.i .i64 no, .i .i64 rate, .ls [.i .i64, .i .i64, .i .i64, .i .i64] ts fl], .i .i64 kn, .p 0 0, .p 1 0], [.c 47 [.i .i64 n1, .i .i64 n2, .i .i64 n3, .i .i64 n4, .i .i64 n5, .i .i64 n6, .i .i64 n7, .i .i64 n8, .ls [.i .i64, .i .i64, .i .i64, .i .i64, .i .i64] sk sf], .c 3 [.i .i64 stake]] => some (true, .tup [.agg [.i .i64 (mL 4 ⟨⟨n1, n2, n3, n4, n5, n6, n7, n8, sk⟩, stake, 0, 0⟩ no rate ts kn), .i .i64 (mH 4 ⟨⟨n1, n2, n3, n4, n5, n6, n7, n8, sk⟩, stake, 0, 0⟩ no rate ts kn)], .i .i64 (mE 4 ⟨⟨n1, n2, n3, n4, n5, n6, n7, n8, sk⟩, stake, 0, 0⟩ no rate ts kn)])
  | _, _ => none
theorem okk43 (h : HooksOK P X noHooks) (no : Int) (rate : Int) (ts : List Test) (fl : Bool) (kn : Int) (n1 : Int) (n2 : Int) (n3 : Int) (n4 : Int) (n5 : Int) (n6 : Int) (n7 : Int) (n8 : Int) (sk : List Stk) (sf : Bool) (stake : Int)  : Enters P 43 ∧ CallV P X 43 [.agg [.i .i64 no, .i .i64 rate, .ls T26 ts fl], .i .i64 kn, .p 0 0, .p 1 0] [.c 47 [.i .i64 n1, .i .i64 n2, .i .i64 n3, .i .i64 n4, .i .i64 n5, .i .i64 n6, .i .i64 n7, .i .i64 n8, .ls T71 sk sf], .c 3 [.i .i64 stake]] (.tup [.agg [.i .i64 (mL 4 ⟨⟨n1, n2, n3, n4, n5, n6, n7, n8, sk⟩, stake, 0, 0⟩ no rate ts kn), .i .i64 (mH 4 ⟨⟨n1, n2, n3, n4, n5, n6, n7, n8, sk⟩, stake, 0, 0⟩ no rate ts kn)], .i .i64 (mE 4 ⟨⟨n1, n2, n3, n4, n5, n6, n7, n8, sk⟩, stake, 0, 0⟩ no rate ts kn)]) [.c 47 [.i .i64 n1, .i .i64 n2, .i .i64 n3, .i .i64 n4, .i .i64 n5, .i .i64 n6, .i .i64 n7, .i .i64 n8, .ls T71 sk sf], .c 3 [.i .i64 stake]] [] := by

  exact evB_sound (K16_ok h) (show evB P K16 43 [.agg [.i .i64 no, .i .i64 rate, .ls T26 ts fl], .i .i64 kn, .p 0 0, .p 1 0] [.c 47 [.i .i64 n1, .i .i64 n2, .i .i64 n3, .i .i64 n4, .i .i64 n5, .i .i64 n6, .i .i64 n7, .i .i64 n8, .ls T71 sk sf], .c 3 [.i .i64 stake]] = some (.tup [.agg [.i .i64 (mL 4 ⟨⟨n1, n2, n3, n4, n5, n6, n7, n8, sk⟩, stake, 0, 0⟩ no rate ts kn), .i .i64 (mH 4 ⟨⟨n1, n2, n3, n4, n5, n6, n7, n8, sk⟩, stake, 0, 0⟩ no rate ts kn)], .i .i64 (mE 4 ⟨⟨n1, n2, n3, n4, n5, n6, n7, n8, sk⟩, stake, 0, 0⟩ no rate ts kn)], [.c 47 [.i .i64 n1, .i .i64 n2, .i .i64 n3, .i .i64 n4, .i .i64 n5, .i .i64 n6, .i .i64 n7, .i .i64 n8, .ls T71 sk sf], .c 3 [.i .i64 stake]]) by kernel_rfl)
theorem ok43 (h : HooksOK P X noHooks) : ∀ args H v, h43 args H = some (true, v) → Enters P 43 ∧ CallV P X 43 args H v H [] := by
  intro args H v hv
  unfold h43 at hv
  split at hv
  case h_2 => cases hv
  rename_i no rate ts fl kn n1 n2 n3 n4 n5 n6 n7 n8 sk sf stake
  simp only [Option.some.injEq, Prod.mk.injEq, Bool.and_eq_true, eqI_s, true_and] at hv
  subst hv
  exact okk43 h _ _ _ _ _ _ _ _ _ _ _ _ _ _ _ _ 
noncomputable def h45 (args : List V) (H : Heap) : Option (Bool × V) := match args, H with
  | [.agg [.i .i64 no, .i .i64 rate, .ls [.i .i64, .i .i64, .i .i64, .i .i64] ts fl], .i .i64 kn, .p 0 0], [.c 47 [.i .i64 n1, .i .i64 n2, .i .i64 n3, .i .i64 n4, .i .i64 n5, .i .i64 n6, .i .i64 n7, .i .i64 n8, .ls [.i .i64, .i .i64, .i .i64, .i .i64, .i .i64] sk sf]] => some (true, .tup [.agg [.i .i64 (mL 5 ⟨⟨n1, n2, n3, n4, n5, n6, n7, n8, sk⟩, 0, 0, 0⟩ no rate ts kn), .i .i64 (mH 5 ⟨⟨n1, n2, n3, n4, n5, n6, n7, n8, sk⟩, 0, 0, 0⟩ no rate ts kn)], .i .i64 (mE 5 ⟨⟨n1, n2, n3, n4, n5, n6, n7, n8, sk⟩, 0, 0, 0⟩ no rate ts kn)])
  | _, _ => none
theorem okk45 (h : HooksOK P X noHooks) (no : Int) (rate : Int) (ts : List Test) (fl : Bool) (kn : Int) (n1 : Int) (n2 : Int) (n3 : Int) (n4 : Int) (n5 : Int) (n6 : Int) (n7 : Int) (n8 : Int) (sk : List Stk) (sf : Bool)  : Enters P 45 ∧ CallV P X 45 [.agg [.i .i64 no, .i .i64 rate, .ls T26 ts fl], .i .i64 kn, .p 0 0] [.c 47 [.i .i64 n1, .i .i64 n2, .i .i64 n3, .i .i64 n4, .i .i64 n5, .i .i64 n6, .i .i64 n7, .i .i64 n8, .ls T71 sk sf]] (.tup [.agg [.i .i64 (mL 5 ⟨⟨n1, n2, n3, n4, n5, n6, n7, n8, sk⟩, 0, 0, 0⟩ no rate ts kn), .i .i64 (mH 5 ⟨⟨n1, n2, n3, n4, n5, n6, n7, n8, sk⟩, 0, 0, 0⟩ no rate ts kn)], .i .i64 (mE 5 ⟨⟨n1, n2, n3, n4, n5, n6, n7, n8, sk⟩, 0, 0, 0⟩ no rate ts kn)]) [.c 47 [.i .i64 n1, .i .i64 n2, .i .i64 n3, .i .i64 n4, .i .i64 n5, .i .i64 n6, .i .i64 n7, .i .i64 n8, .ls T71 sk sf]] [] := by

  exact evB_sound (K16_ok h) (show evB P K16 45 [.agg [.i .i64 no, .i .i64 rate, .ls T26 ts fl], .i .i64 kn, .p 0 0] [.c 47 [.i .i64 n1, .i .i64 n2, .i .i64 n3, .i .i64 n4, .i .i64 n5, .i .i64 n6, .i .i64 n7, .i .i64 n8, .ls T71 sk sf]] = some (.tup [.agg [.i .i64 (mL 5 ⟨⟨n1, n2, n3, n4, n5, n6, n7, n8, sk⟩, 0, 0, 0⟩ no rate ts kn), .i .i64 (mH 5 ⟨⟨n1, n2, n3, n4, n5, n6, n7, n8, sk⟩, 0, 0, 0⟩ no rate ts kn)], .i .i64 (mE 5 ⟨⟨n1, n2, n3, n4, n5, n6, n7, n8, sk⟩, 0, 0, 0⟩ no rate ts kn)], [.c 47 [.i .i64 n1, .i .i64 n2, .i .i64 n3, .i .i64 n4, .i .i64 n5, .i .i64 n6, .i .i64 n7, .i .i64 n8, .ls T71 sk sf]]) by kernel_rfl)
theorem ok45 (h : HooksOK P X noHooks) : ∀ args H v, h45 args H = some (true, v) → Enters P 45 ∧ CallV P X 45 args H v H [] := by
  intro args H v hv
  unfold h45 at hv
  split at hv
  case h_2 => cases hv
  rename_i no rate ts fl kn n1 n2 n3 n4 n5 n6 n7 n8 sk sf
  simp only [Option.some.injEq, Prod.mk.injEq, Bool.and_eq_true, eqI_s, true_and] at hv
  subst hv
  exact okk45 h _ _ _ _ _ _ _ _ _ _ _ _ _ _ _ 
noncomputable def M1 : Hooks := ((((((K16.call1 47 h47).peek1 39 h39).peek1 40 h40).peek1 41 h41).peek1 42 h42).peek1 43 h43).peek1 45 h45
theorem M1_ok (h : HooksOK P X noHooks) : HooksOK P X M1 := (((((((K16_ok h).call1 (ok47 h)).peek1 (ok39 h)).peek1 (ok40 h)).peek1 (ok41 h)).peek1 (ok42 h)).peek1 (ok43 h)).peek1 (ok45 h)
end Go.Mini.Co
end
section
set_option linter.unusedVariables false
set_option linter.unusedSimpArgs false
set_option maxRecDepth 100000
namespace Go.Mini.Co
open Go Go.Mini
variable {X : Fz → Prop}
/-! CourseMore: its loops, where nothing is wrong. -/
abbrev RowX := Int × Int × List Test × Unit
noncomputable def eqX (a b : List RowX) : Bool := @decide (a = b) (Classical.propDecidable _)
theorem eqX_s {a b : List RowX} : eqX a b = true ↔ a = b := by simp [eqX]
def goodB (e g : Int) (ins : Bool) : Bool := !((e == 0 && (g == 0 && !ins)) || (e == 13 && g == 0))
def treeG {α : Type} (e g : Int) (ins : Bool) (rt nx : α) : α :=
  bif e == 0 then (bif g == 0 then (bif !ins then rt else (bif e == 13 then (bif g == 0 then rt else nx) else nx)) else (bif e == 13 then (bif g == 0 then rt else nx) else nx)) else (bif e == 13 then (bif g == 0 then rt else nx) else nx)
theorem treeG_good {α : Type} {e g : Int} {ins : Bool} {rt nx : α} (h : goodB e g ins = true) : treeG e g ins rt nx = nx := by
  unfold goodB at h
  unfold treeG
  cases h1 : e == 0 <;> cases h2 : g == 0 <;> cases h3 : e == 13 <;> cases ins <;> simp_all
def good1 (v : Nat) (q : Ask) (e al ah : Int) (no rate : Int) (ts : List Test) (k : Int) : Bool := goodB e (mE v q no rate ts k) (insideB (mL v q no rate ts k) (mH v q no rate ts k) al ah)
def good2 (v : Nat) (q : Ask) (e al ah : Int) (no rate : Int) (ts : List Test) (k k' : Int) : Bool := good1 v q e al ah no rate ts k && good1 v q e al ah no rate ts k'
def vOf (g : FuncId) (caps : List V) : Option Nat :=
  match g, caps with
  | 39, [.p 4 0] => some 0
  | 40, [.p 4 0] => some 1
  | 41, [.p 2 0, .p 3 0] => some 2
  | 42, [.p 2 0, .p 3 0] => some 3
  | 43, [.p 2 0, .p 3 0] => some 4
  | 45, [.p 2 0] => some 5
  | _, _ => none
def S8c (g : FuncId) (caps : List V) (no : Int) (rate : Int) (ts : List Test) (fl : Bool) (a : Int) (b : Int) (c : Int) (d : Int) (n1 : Int) (n2 : Int) (n3 : Int) (n4 : Int) (n5 : Int) (n6 : Int) (n7 : Int) (n8 : Int) (sk : List Stk) (sf : Bool) (stake : Int) (d0 : Int) (d1 : Int) (d2 : Int) (d3 : Int) (no2 : Int) (rate2 : Int) (ts2 : List Test) (fl2 : Bool) (al : Int) (ah : Int) (xs : List RowX) (xn : Int) (xr : Int) (xt : List Test) (xf : Bool) (e : Int) (m : Int) (j : Int) (i : Int) : St :=
  ⟨[(5, .p 0 0), (9, .p 4 0), (10, .b false), (11, .p 5 0), (14, .fn g [] caps), (15, .p 7 0), (16, .i .i64 e), (18, .p 9 0), (57, .sc 6 0 6 1), (58, .i .i64 6), (59, .i .i64 m), (73, .sl 8), (74, .i .i64 2), (75, .i .i64 j), (79, .sc 4 2 2 1), (80, .i .i64 2), (81, .i .i64 i)], [.c 24 [.i .i64 no, .i .i64 rate, .ls [.i .i64, .i .i64, .i .i64, .i .i64] ts fl], .c 26 [.i .i64 a, .i .i64 b, .i .i64 c, .i .i64 d], .c 47 [.i .i64 n1, .i .i64 n2, .i .i64 n3, .i .i64 n4, .i .i64 n5, .i .i64 n6, .i .i64 n7, .i .i64 n8, .ls [.i .i64, .i .i64, .i .i64, .i .i64, .i .i64] sk sf], .c 3 [.i .i64 stake], .c 61 [.i .i64 d0, .i .i64 d1, .i .i64 d2, .i .i64 d3], .c 24 [.i .i64 no2, .i .i64 rate2, .ls [.i .i64, .i .i64, .i .i64, .i .i64] ts2 fl2], .c 65 [.fn 39 [] [.p 4 0], .fn 40 [] [.p 4 0], .fn 41 [] [.p 2 0, .p 3 0], .fn 42 [] [.p 2 0, .p 3 0], .fn 43 [] [.p 2 0, .p 3 0], .fn 45 [] [.p 2 0]], .c 40 [.i .i64 al, .i .i64 ah], .r 24 [.i .i64, .i .i64, .sl [.i .i64, .i .i64, .i .i64, .i .i64]] xs false, .c 24 [.i .i64 xn, .i .i64 xr, .ls [.i .i64, .i .i64, .i .i64, .i .i64] xt xf]], []⟩
theorem r8c_0_0 (no : Int) (rate : Int) (ts : List Test) (fl : Bool) (a : Int) (b : Int) (c : Int) (d : Int) (n1 : Int) (n2 : Int) (n3 : Int) (n4 : Int) (n5 : Int) (n6 : Int) (n7 : Int) (n8 : Int) (sk : List Stk) (sf : Bool) (stake : Int) (d0 : Int) (d1 : Int) (d2 : Int) (d3 : Int) (no2 : Int) (rate2 : Int) (ts2 : List Test) (fl2 : Bool) (al : Int) (ah : Int) (xs : List RowX) (xn : Int) (xr : Int) (xt : List Test) (xf : Bool) (e : Int) (m : Int) (j : Int) : evRound P M1 8 16 (S8c 39 [.p 4 0] no rate ts fl a b c d n1 n2 n3 n4 n5 n6 n7 n8 sk sf stake d0 d1 d2 d3 no2 rate2 ts2 fl2 al ah xs xn xr xt xf e m j 0) =
    treeG e (mE 0 ⟨⟨n1, n2, n3, n4, n5, n6, n7, n8, sk⟩, stake, d0, d1⟩ xn xr xt d2) (insideB (mL 0 ⟨⟨n1, n2, n3, n4, n5, n6, n7, n8, sk⟩, stake, d0, d1⟩ xn xr xt d2) (mH 0 ⟨⟨n1, n2, n3, n4, n5, n6, n7, n8, sk⟩, stake, d0, d1⟩ xn xr xt d2) al ah) (some (.ret, S8c 39 [.p 4 0] no rate ts fl a b c d n1 n2 n3 n4 n5 n6 n7 n8 sk sf stake d0 d1 d2 d3 no2 rate2 ts2 fl2 al ah xs xn xr xt xf e m j 0)) (some (.n, S8c 39 [.p 4 0] no rate ts fl a b c d n1 n2 n3 n4 n5 n6 n7 n8 sk sf stake d0 d1 d2 d3 no2 rate2 ts2 fl2 al ah xs xn xr xt xf e m j 1)) := by kernel_rfl
theorem r8c_0_1 (no : Int) (rate : Int) (ts : List Test) (fl : Bool) (a : Int) (b : Int) (c : Int) (d : Int) (n1 : Int) (n2 : Int) (n3 : Int) (n4 : Int) (n5 : Int) (n6 : Int) (n7 : Int) (n8 : Int) (sk : List Stk) (sf : Bool) (stake : Int) (d0 : Int) (d1 : Int) (d2 : Int) (d3 : Int) (no2 : Int) (rate2 : Int) (ts2 : List Test) (fl2 : Bool) (al : Int) (ah : Int) (xs : List RowX) (xn : Int) (xr : Int) (xt : List Test) (xf : Bool) (e : Int) (m : Int) (j : Int) : evRound P M1 8 16 (S8c 39 [.p 4 0] no rate ts fl a b c d n1 n2 n3 n4 n5 n6 n7 n8 sk sf stake d0 d1 d2 d3 no2 rate2 ts2 fl2 al ah xs xn xr xt xf e m j 1) =
    treeG e (mE 0 ⟨⟨n1, n2, n3, n4, n5, n6, n7, n8, sk⟩, stake, d0, d1⟩ xn xr xt d3) (insideB (mL 0 ⟨⟨n1, n2, n3, n4, n5, n6, n7, n8, sk⟩, stake, d0, d1⟩ xn xr xt d3) (mH 0 ⟨⟨n1, n2, n3, n4, n5, n6, n7, n8, sk⟩, stake, d0, d1⟩ xn xr xt d3) al ah) (some (.ret, S8c 39 [.p 4 0] no rate ts fl a b c d n1 n2 n3 n4 n5 n6 n7 n8 sk sf stake d0 d1 d2 d3 no2 rate2 ts2 fl2 al ah xs xn xr xt xf e m j 1)) (some (.n, S8c 39 [.p 4 0] no rate ts fl a b c d n1 n2 n3 n4 n5 n6 n7 n8 sk sf stake d0 d1 d2 d3 no2 rate2 ts2 fl2 al ah xs xn xr xt xf e m j 2)) := by kernel_rfl
theorem r8c_0_2 (no : Int) (rate : Int) (ts : List Test) (fl : Bool) (a : Int) (b : Int) (c : Int) (d : Int) (n1 : Int) (n2 : Int) (n3 : Int) (n4 : Int) (n5 : Int) (n6 : Int) (n7 : Int) (n8 : Int) (sk : List Stk) (sf : Bool) (stake : Int) (d0 : Int) (d1 : Int) (d2 : Int) (d3 : Int) (no2 : Int) (rate2 : Int) (ts2 : List Test) (fl2 : Bool) (al : Int) (ah : Int) (xs : List RowX) (xn : Int) (xr : Int) (xt : List Test) (xf : Bool) (e : Int) (m : Int) (j : Int) : evRound P M1 8 16 (S8c 39 [.p 4 0] no rate ts fl a b c d n1 n2 n3 n4 n5 n6 n7 n8 sk sf stake d0 d1 d2 d3 no2 rate2 ts2 fl2 al ah xs xn xr xt xf e m j 2) = some (.exit 4, S8c 39 [.p 4 0] no rate ts fl a b c d n1 n2 n3 n4 n5 n6 n7 n8 sk sf stake d0 d1 d2 d3 no2 rate2 ts2 fl2 al ah xs xn xr xt xf e m j 2) := by kernel_rfl
theorem lrun8c_0 (h : HooksOK P X noHooks) (no : Int) (rate : Int) (ts : List Test) (fl : Bool) (a : Int) (b : Int) (c : Int) (d : Int) (n1 : Int) (n2 : Int) (n3 : Int) (n4 : Int) (n5 : Int) (n6 : Int) (n7 : Int) (n8 : Int) (sk : List Stk) (sf : Bool) (stake : Int) (d0 : Int) (d1 : Int) (d2 : Int) (d3 : Int) (no2 : Int) (rate2 : Int) (ts2 : List Test) (fl2 : Bool) (al : Int) (ah : Int) (xs : List RowX) (xn : Int) (xr : Int) (xt : List Test) (xf : Bool) (e : Int) (m : Int) (j : Int) (hg : good2 0 ⟨⟨n1, n2, n3, n4, n5, n6, n7, n8, sk⟩, stake, d0, d1⟩ e al ah xn xr xt d2 d3 = true) : LoopV P X 8 16 (S8c 39 [.p 4 0] no rate ts fl a b c d n1 n2 n3 n4 n5 n6 n7 n8 sk sf stake d0 d1 d2 d3 no2 rate2 ts2 fl2 al ah xs xn xr xt xf e m j 0) (.exit 4) (S8c 39 [.p 4 0] no rate ts fl a b c d n1 n2 n3 n4 n5 n6 n7 n8 sk sf stake d0 d1 d2 d3 no2 rate2 ts2 fl2 al ah xs xn xr xt xf e m j 2) := by
  unfold good2 good1 at hg
  rw [Bool.and_eq_true] at hg
  exact LoopV.step (M1_ok h) ((r8c_0_0 ..).trans (treeG_good hg.1)) (LoopV.step (M1_ok h) ((r8c_0_1 ..).trans (treeG_good hg.2)) (LoopV.last (M1_ok h) (r8c_0_2 ..) (by simp)))
theorem r8c_1_0 (no : Int) (rate : Int) (ts : List Test) (fl : Bool) (a : Int) (b : Int) (c : Int) (d : Int) (n1 : Int) (n2 : Int) (n3 : Int) (n4 : Int) (n5 : Int) (n6 : Int) (n7 : Int) (n8 : Int) (sk : List Stk) (sf : Bool) (stake : Int) (d0 : Int) (d1 : Int) (d2 : Int) (d3 : Int) (no2 : Int) (rate2 : Int) (ts2 : List Test) (fl2 : Bool) (al : Int) (ah : Int) (xs : List RowX) (xn : Int) (xr : Int) (xt : List Test) (xf : Bool) (e : Int) (m : Int) (j : Int) : evRound P M1 8 16 (S8c 40 [.p 4 0] no rate ts fl a b c d n1 n2 n3 n4 n5 n6 n7 n8 sk sf stake d0 d1 d2 d3 no2 rate2 ts2 fl2 al ah xs xn xr xt xf e m j 0) =
    treeG e (mE 1 ⟨⟨n1, n2, n3, n4, n5, n6, n7, n8, sk⟩, stake, d0, d1⟩ xn xr xt d2) (insideB (mL 1 ⟨⟨n1, n2, n3, n4, n5, n6, n7, n8, sk⟩, stake, d0, d1⟩ xn xr xt d2) (mH 1 ⟨⟨n1, n2, n3, n4, n5, n6, n7, n8, sk⟩, stake, d0, d1⟩ xn xr xt d2) al ah) (some (.ret, S8c 40 [.p 4 0] no rate ts fl a b c d n1 n2 n3 n4 n5 n6 n7 n8 sk sf stake d0 d1 d2 d3 no2 rate2 ts2 fl2 al ah xs xn xr xt xf e m j 0)) (some (.n, S8c 40 [.p 4 0] no rate ts fl a b c d n1 n2 n3 n4 n5 n6 n7 n8 sk sf stake d0 d1 d2 d3 no2 rate2 ts2 fl2 al ah xs xn xr xt xf e m j 1)) := by kernel_rfl
theorem r8c_1_1 (no : Int) (rate : Int) (ts : List Test) (fl : Bool) (a : Int) (b : Int) (c : Int) (d : Int) (n1 : Int) (n2 : Int) (n3 : Int) (n4 : Int) (n5 : Int) (n6 : Int) (n7 : Int) (n8 : Int) (sk : List Stk) (sf : Bool) (stake : Int) (d0 : Int) (d1 : Int) (d2 : Int) (d3 : Int) (no2 : Int) (rate2 : Int) (ts2 : List Test) (fl2 : Bool) (al : Int) (ah : Int) (xs : List RowX) (xn : Int) (xr : Int) (xt : List Test) (xf : Bool) (e : Int) (m : Int) (j : Int) : evRound P M1 8 16 (S8c 40 [.p 4 0] no rate ts fl a b c d n1 n2 n3 n4 n5 n6 n7 n8 sk sf stake d0 d1 d2 d3 no2 rate2 ts2 fl2 al ah xs xn xr xt xf e m j 1) =
    treeG e (mE 1 ⟨⟨n1, n2, n3, n4, n5, n6, n7, n8, sk⟩, stake, d0, d1⟩ xn xr xt d3) (insideB (mL 1 ⟨⟨n1, n2, n3, n4, n5, n6, n7, n8, sk⟩, stake, d0, d1⟩ xn xr xt d3) (mH 1 ⟨⟨n1, n2, n3, n4, n5, n6, n7, n8, sk⟩, stake, d0, d1⟩ xn xr xt d3) al ah) (some (.ret, S8c 40 [.p 4 0] no rate ts fl a b c d n1 n2 n3 n4 n5 n6 n7 n8 sk sf stake d0 d1 d2 d3 no2 rate2 ts2 fl2 al ah xs xn xr xt xf e m j 1)) (some (.n, S8c 40 [.p 4 0] no rate ts fl a b c d n1 n2 n3 n4 n5 n6 n7 n8 sk sf stake d0 d1 d2 d3 no2 rate2 ts2 fl2 al ah xs xn xr xt xf e m j 2)) := by kernel_rfl
theorem r8c_1_2 (no : Int) (rate : Int) (ts : List Test) (fl : Bool) (a : Int) (b : Int) (c : Int) (d : Int) (n1 : Int) (n2 : Int) (n3 : Int) (n4 : Int) (n5 : Int) (n6 : Int) (n7 : Int) (n8 : Int) (sk : List Stk) (sf : Bool) (stake : Int) (d0 : Int) (d1 : Int) (d2 : Int) (d3 : Int) (no2 : Int) (rate2 : Int) (ts2 : List Test) (fl2 : Bool) (al : Int) (ah : Int) (xs : List RowX) (xn : Int) (xr : Int) (xt : List Test) (xf : Bool) (e : Int) (m : Int) (j : Int) : evRound P M1 8 16 (S8c 40 [.p 4 0] no rate ts fl a b c d n1 n2 n3 n4 n5 n6 n7 n8 sk sf stake d0 d1 d2 d3 no2 rate2 ts2 fl2 al ah xs xn xr xt xf e m j 2) = some (.exit 4, S8c 40 [.p 4 0] no rate ts fl a b c d n1 n2 n3 n4 n5 n6 n7 n8 sk sf stake d0 d1 d2 d3 no2 rate2 ts2 fl2 al ah xs xn xr xt xf e m j 2) := by kernel_rfl
theorem lrun8c_1 (h : HooksOK P X noHooks) (no : Int) (rate : Int) (ts : List Test) (fl : Bool) (a : Int) (b : Int) (c : Int) (d : Int) (n1 : Int) (n2 : Int) (n3 : Int) (n4 : Int) (n5 : Int) (n6 : Int) (n7 : Int) (n8 : Int) (sk : List Stk) (sf : Bool) (stake : Int) (d0 : Int) (d1 : Int) (d2 : Int) (d3 : Int) (no2 : Int) (rate2 : Int) (ts2 : List Test) (fl2 : Bool) (al : Int) (ah : Int) (xs : List RowX) (xn : Int) (xr : Int) (xt : List Test) (xf : Bool) (e : Int) (m : Int) (j : Int) (hg : good2 1 ⟨⟨n1, n2, n3, n4, n5, n6, n7, n8, sk⟩, stake, d0, d1⟩ e al ah xn xr xt d2 d3 = true) : LoopV P X 8 16 (S8c 40 [.p 4 0] no rate ts fl a b c d n1 n2 n3 n4 n5 n6 n7 n8 sk sf stake d0 d1 d2 d3 no2 rate2 ts2 fl2 al ah xs xn xr xt xf e m j 0) (.exit 4) (S8c 40 [.p 4 0] no rate ts fl a b c d n1 n2 n3 n4 n5 n6 n7 n8 sk sf stake d0 d1 d2 d3 no2 rate2 ts2 fl2 al ah xs xn xr xt xf e m j 2) := by
  unfold good2 good1 at hg
  rw [Bool.and_eq_true] at hg
  exact LoopV.step (M1_ok h) ((r8c_1_0 ..).trans (treeG_good hg.1)) (LoopV.step (M1_ok h) ((r8c_1_1 ..).trans (treeG_good hg.2)) (LoopV.last (M1_ok h) (r8c_1_2 ..) (by simp)))
theorem r8c_2_0 (no : Int) (rate : Int) (ts : List Test) (fl : Bool) (a : Int) (b : Int) (c : Int) (d : Int) (n1 : Int) (n2 : Int) (n3 : Int) (n4 : Int) (n5 : Int) (n6 : Int) (n7 : Int) (n8 : Int) (sk : List Stk) (sf : Bool) (stake : Int) (d0 : Int) (d1 : Int) (d2 : Int) (d3 : Int) (no2 : Int) (rate2 : Int) (ts2 : List Test) (fl2 : Bool) (al : Int) (ah : Int) (xs : List RowX) (xn : Int) (xr : Int) (xt : List Test) (xf : Bool) (e : Int) (m : Int) (j : Int) : evRound P M1 8 16 (S8c 41 [.p 2 0, .p 3 0] no rate ts fl a b c d n1 n2 n3 n4 n5 n6 n7 n8 sk sf stake d0 d1 d2 d3 no2 rate2 ts2 fl2 al ah xs xn xr xt xf e m j 0) =
    treeG e (mE 2 ⟨⟨n1, n2, n3, n4, n5, n6, n7, n8, sk⟩, stake, d0, d1⟩ xn xr xt d2) (insideB (mL 2 ⟨⟨n1, n2, n3, n4, n5, n6, n7, n8, sk⟩, stake, d0, d1⟩ xn xr xt d2) (mH 2 ⟨⟨n1, n2, n3, n4, n5, n6, n7, n8, sk⟩, stake, d0, d1⟩ xn xr xt d2) al ah) (some (.ret, S8c 41 [.p 2 0, .p 3 0] no rate ts fl a b c d n1 n2 n3 n4 n5 n6 n7 n8 sk sf stake d0 d1 d2 d3 no2 rate2 ts2 fl2 al ah xs xn xr xt xf e m j 0)) (some (.n, S8c 41 [.p 2 0, .p 3 0] no rate ts fl a b c d n1 n2 n3 n4 n5 n6 n7 n8 sk sf stake d0 d1 d2 d3 no2 rate2 ts2 fl2 al ah xs xn xr xt xf e m j 1)) := by kernel_rfl
theorem r8c_2_1 (no : Int) (rate : Int) (ts : List Test) (fl : Bool) (a : Int) (b : Int) (c : Int) (d : Int) (n1 : Int) (n2 : Int) (n3 : Int) (n4 : Int) (n5 : Int) (n6 : Int) (n7 : Int) (n8 : Int) (sk : List Stk) (sf : Bool) (stake : Int) (d0 : Int) (d1 : Int) (d2 : Int) (d3 : Int) (no2 : Int) (rate2 : Int) (ts2 : List Test) (fl2 : Bool) (al : Int) (ah : Int) (xs : List RowX) (xn : Int) (xr : Int) (xt : List Test) (xf : Bool) (e : Int) (m : Int) (j : Int) : evRound P M1 8 16 (S8c 41 [.p 2 0, .p 3 0] no rate ts fl a b c d n1 n2 n3 n4 n5 n6 n7 n8 sk sf stake d0 d1 d2 d3 no2 rate2 ts2 fl2 al ah xs xn xr xt xf e m j 1) =
    treeG e (mE 2 ⟨⟨n1, n2, n3, n4, n5, n6, n7, n8, sk⟩, stake, d0, d1⟩ xn xr xt d3) (insideB (mL 2 ⟨⟨n1, n2, n3, n4, n5, n6, n7, n8, sk⟩, stake, d0, d1⟩ xn xr xt d3) (mH 2 ⟨⟨n1, n2, n3, n4, n5, n6, n7, n8, sk⟩, stake, d0, d1⟩ xn xr xt d3) al ah) (some (.ret, S8c 41 [.p 2 0, .p 3 0] no rate ts fl a b c d n1 n2 n3 n4 n5 n6 n7 n8 sk sf stake d0 d1 d2 d3 no2 rate2 ts2 fl2 al ah xs xn xr xt xf e m j 1)) (some (.n, S8c 41 [.p 2 0, .p 3 0] no rate ts fl a b c d n1 n2 n3 n4 n5 n6 n7 n8 sk sf stake d0 d1 d2 d3 no2 rate2 ts2 fl2 al ah xs xn xr xt xf e m j 2)) := by kernel_rfl
theorem r8c_2_2 (no : Int) (rate : Int) (ts : List Test) (fl : Bool) (a : Int) (b : Int) (c : Int) (d : Int) (n1 : Int) (n2 : Int) (n3 : Int) (n4 : Int) (n5 : Int) (n6 : Int) (n7 : Int) (n8 : Int) (sk : List Stk) (sf : Bool) (stake : Int) (d0 : Int) (d1 : Int) (d2 : Int) (d3 : Int) (no2 : Int) (rate2 : Int) (ts2 : List Test) (fl2 : Bool) (al : Int) (ah : Int) (xs : List RowX) (xn : Int) (xr : Int) (xt : List Test) (xf : Bool) (e : Int) (m : Int) (j : Int) : evRound P M1 8 16 (S8c 41 [.p 2 0, .p 3 0] no rate ts fl a b c d n1 n2 n3 n4 n5 n6 n7 n8 sk sf stake d0 d1 d2 d3 no2 rate2 ts2 fl2 al ah xs xn xr xt xf e m j 2) = some (.exit 4, S8c 41 [.p 2 0, .p 3 0] no rate ts fl a b c d n1 n2 n3 n4 n5 n6 n7 n8 sk sf stake d0 d1 d2 d3 no2 rate2 ts2 fl2 al ah xs xn xr xt xf e m j 2) := by kernel_rfl
theorem lrun8c_2 (h : HooksOK P X noHooks) (no : Int) (rate : Int) (ts : List Test) (fl : Bool) (a : Int) (b : Int) (c : Int) (d : Int) (n1 : Int) (n2 : Int) (n3 : Int) (n4 : Int) (n5 : Int) (n6 : Int) (n7 : Int) (n8 : Int) (sk : List Stk) (sf : Bool) (stake : Int) (d0 : Int) (d1 : Int) (d2 : Int) (d3 : Int) (no2 : Int) (rate2 : Int) (ts2 : List Test) (fl2 : Bool) (al : Int) (ah : Int) (xs : List RowX) (xn : Int) (xr : Int) (xt : List Test) (xf : Bool) (e : Int) (m : Int) (j : Int) (hg : good2 2 ⟨⟨n1, n2, n3, n4, n5, n6, n7, n8, sk⟩, stake, d0, d1⟩ e al ah xn xr xt d2 d3 = true) : LoopV P X 8 16 (S8c 41 [.p 2 0, .p 3 0] no rate ts fl a b c d n1 n2 n3 n4 n5 n6 n7 n8 sk sf stake d0 d1 d2 d3 no2 rate2 ts2 fl2 al ah xs xn xr xt xf e m j 0) (.exit 4) (S8c 41 [.p 2 0, .p 3 0] no rate ts fl a b c d n1 n2 n3 n4 n5 n6 n7 n8 sk sf stake d0 d1 d2 d3 no2 rate2 ts2 fl2 al ah xs xn xr xt xf e m j 2) := by
  unfold good2 good1 at hg
  rw [Bool.and_eq_true] at hg
  exact LoopV.step (M1_ok h) ((r8c_2_0 ..).trans (treeG_good hg.1)) (LoopV.step (M1_ok h) ((r8c_2_1 ..).trans (treeG_good hg.2)) (LoopV.last (M1_ok h) (r8c_2_2 ..) (by simp)))
theorem r8c_3_0 (no : Int) (rate : Int) (ts : List Test) (fl : Bool) (a : Int) (b : Int) (c : Int) (d : Int) (n1 : Int) (n2 : Int) (n3 : Int) (n4 : Int) (n5 : Int) (n6 : Int) (n7 : Int) (n8 : Int) (sk : List Stk) (sf : Bool) (stake : Int) (d0 : Int) (d1 : Int) (d2 : Int) (d3 : Int) (no2 : Int) (rate2 : Int) (ts2 : List Test) (fl2 : Bool) (al : Int) (ah : Int) (xs : List RowX) (xn : Int) (xr : Int) (xt : List Test) (xf : Bool) (e : Int) (m : Int) (j : Int) : evRound P M1 8 16 (S8c 42 [.p 2 0, .p 3 0] no rate ts fl a b c d n1 n2 n3 n4 n5 n6 n7 n8 sk sf stake d0 d1 d2 d3 no2 rate2 ts2 fl2 al ah xs xn xr xt xf e m j 0) =
    treeG e (mE 3 ⟨⟨n1, n2, n3, n4, n5, n6, n7, n8, sk⟩, stake, d0, d1⟩ xn xr xt d2) (insideB (mL 3 ⟨⟨n1, n2, n3, n4, n5, n6, n7, n8, sk⟩, stake, d0, d1⟩ xn xr xt d2) (mH 3 ⟨⟨n1, n2, n3, n4, n5, n6, n7, n8, sk⟩, stake, d0, d1⟩ xn xr xt d2) al ah) (some (.ret, S8c 42 [.p 2 0, .p 3 0] no rate ts fl a b c d n1 n2 n3 n4 n5 n6 n7 n8 sk sf stake d0 d1 d2 d3 no2 rate2 ts2 fl2 al ah xs xn xr xt xf e m j 0)) (some (.n, S8c 42 [.p 2 0, .p 3 0] no rate ts fl a b c d n1 n2 n3 n4 n5 n6 n7 n8 sk sf stake d0 d1 d2 d3 no2 rate2 ts2 fl2 al ah xs xn xr xt xf e m j 1)) := by kernel_rfl
theorem r8c_3_1 (no : Int) (rate : Int) (ts : List Test) (fl : Bool) (a : Int) (b : Int) (c : Int) (d : Int) (n1 : Int) (n2 : Int) (n3 : Int) (n4 : Int) (n5 : Int) (n6 : Int) (n7 : Int) (n8 : Int) (sk : List Stk) (sf : Bool) (stake : Int) (d0 : Int) (d1 : Int) (d2 : Int) (d3 : Int) (no2 : Int) (rate2 : Int) (ts2 : List Test) (fl2 : Bool) (al : Int) (ah : Int) (xs : List RowX) (xn : Int) (xr : Int) (xt : List Test) (xf : Bool) (e : Int) (m : Int) (j : Int) : evRound P M1 8 16 (S8c 42 [.p 2 0, .p 3 0] no rate ts fl a b c d n1 n2 n3 n4 n5 n6 n7 n8 sk sf stake d0 d1 d2 d3 no2 rate2 ts2 fl2 al ah xs xn xr xt xf e m j 1) =
    treeG e (mE 3 ⟨⟨n1, n2, n3, n4, n5, n6, n7, n8, sk⟩, stake, d0, d1⟩ xn xr xt d3) (insideB (mL 3 ⟨⟨n1, n2, n3, n4, n5, n6, n7, n8, sk⟩, stake, d0, d1⟩ xn xr xt d3) (mH 3 ⟨⟨n1, n2, n3, n4, n5, n6, n7, n8, sk⟩, stake, d0, d1⟩ xn xr xt d3) al ah) (some (.ret, S8c 42 [.p 2 0, .p 3 0] no rate ts fl a b c d n1 n2 n3 n4 n5 n6 n7 n8 sk sf stake d0 d1 d2 d3 no2 rate2 ts2 fl2 al ah xs xn xr xt xf e m j 1)) (some (.n, S8c 42 [.p 2 0, .p 3 0] no rate ts fl a b c d n1 n2 n3 n4 n5 n6 n7 n8 sk sf stake d0 d1 d2 d3 no2 rate2 ts2 fl2 al ah xs xn xr xt xf e m j 2)) := by kernel_rfl
theorem r8c_3_2 (no : Int) (rate : Int) (ts : List Test) (fl : Bool) (a : Int) (b : Int) (c : Int) (d : Int) (n1 : Int) (n2 : Int) (n3 : Int) (n4 : Int) (n5 : Int) (n6 : Int) (n7 : Int) (n8 : Int) (sk : List Stk) (sf : Bool) (stake : Int) (d0 : Int) (d1 : Int) (d2 : Int) (d3 : Int) (no2 : Int) (rate2 : Int) (ts2 : List Test) (fl2 : Bool) (al : Int) (ah : Int) (xs : List RowX) (xn : Int) (xr : Int) (xt : List Test) (xf : Bool) (e : Int) (m : Int) (j : Int) : evRound P M1 8 16 (S8c 42 [.p 2 0, .p 3 0] no rate ts fl a b c d n1 n2 n3 n4 n5 n6 n7 n8 sk sf stake d0 d1 d2 d3 no2 rate2 ts2 fl2 al ah xs xn xr xt xf e m j 2) = some (.exit 4, S8c 42 [.p 2 0, .p 3 0] no rate ts fl a b c d n1 n2 n3 n4 n5 n6 n7 n8 sk sf stake d0 d1 d2 d3 no2 rate2 ts2 fl2 al ah xs xn xr xt xf e m j 2) := by kernel_rfl
theorem lrun8c_3 (h : HooksOK P X noHooks) (no : Int) (rate : Int) (ts : List Test) (fl : Bool) (a : Int) (b : Int) (c : Int) (d : Int) (n1 : Int) (n2 : Int) (n3 : Int) (n4 : Int) (n5 : Int) (n6 : Int) (n7 : Int) (n8 : Int) (sk : List Stk) (sf : Bool) (stake : Int) (d0 : Int) (d1 : Int) (d2 : Int) (d3 : Int) (no2 : Int) (rate2 : Int) (ts2 : List Test) (fl2 : Bool) (al : Int) (ah : Int) (xs : List RowX) (xn : Int) (xr : Int) (xt : List Test) (xf : Bool) (e : Int) (m : Int) (j : Int) (hg : good2 3 ⟨⟨n1, n2, n3, n4, n5, n6, n7, n8, sk⟩, stake, d0, d1⟩ e al ah xn xr xt d2 d3 = true) : LoopV P X 8 16 (S8c 42 [.p 2 0, .p 3 0] no rate ts fl a b c d n1 n2 n3 n4 n5 n6 n7 n8 sk sf stake d0 d1 d2 d3 no2 rate2 ts2 fl2 al ah xs xn xr xt xf e m j 0) (.exit 4) (S8c 42 [.p 2 0, .p 3 0] no rate ts fl a b c d n1 n2 n3 n4 n5 n6 n7 n8 sk sf stake d0 d1 d2 d3 no2 rate2 ts2 fl2 al ah xs xn xr xt xf e m j 2) := by
  unfold good2 good1 at hg
  rw [Bool.and_eq_true] at hg
  exact LoopV.step (M1_ok h) ((r8c_3_0 ..).trans (treeG_good hg.1)) (LoopV.step (M1_ok h) ((r8c_3_1 ..).trans (treeG_good hg.2)) (LoopV.last (M1_ok h) (r8c_3_2 ..) (by simp)))
theorem r8c_4_0 (no : Int) (rate : Int) (ts : List Test) (fl : Bool) (a : Int) (b : Int) (c : Int) (d : Int) (n1 : Int) (n2 : Int) (n3 : Int) (n4 : Int) (n5 : Int) (n6 : Int) (n7 : Int) (n8 : Int) (sk : List Stk) (sf : Bool) (stake : Int) (d0 : Int) (d1 : Int) (d2 : Int) (d3 : Int) (no2 : Int) (rate2 : Int) (ts2 : List Test) (fl2 : Bool) (al : Int) (ah : Int) (xs : List RowX) (xn : Int) (xr : Int) (xt : List Test) (xf : Bool) (e : Int) (m : Int) (j : Int) : evRound P M1 8 16 (S8c 43 [.p 2 0, .p 3 0] no rate ts fl a b c d n1 n2 n3 n4 n5 n6 n7 n8 sk sf stake d0 d1 d2 d3 no2 rate2 ts2 fl2 al ah xs xn xr xt xf e m j 0) =
    treeG e (mE 4 ⟨⟨n1, n2, n3, n4, n5, n6, n7, n8, sk⟩, stake, d0, d1⟩ xn xr xt d2) (insideB (mL 4 ⟨⟨n1, n2, n3, n4, n5, n6, n7, n8, sk⟩, stake, d0, d1⟩ xn xr xt d2) (mH 4 ⟨⟨n1, n2, n3, n4, n5, n6, n7, n8, sk⟩, stake, d0, d1⟩ xn xr xt d2) al ah) (some (.ret, S8c 43 [.p 2 0, .p 3 0] no rate ts fl a b c d n1 n2 n3 n4 n5 n6 n7 n8 sk sf stake d0 d1 d2 d3 no2 rate2 ts2 fl2 al ah xs xn xr xt xf e m j 0)) (some (.n, S8c 43 [.p 2 0, .p 3 0] no rate ts fl a b c d n1 n2 n3 n4 n5 n6 n7 n8 sk sf stake d0 d1 d2 d3 no2 rate2 ts2 fl2 al ah xs xn xr xt xf e m j 1)) := by kernel_rfl
theorem r8c_4_1 (no : Int) (rate : Int) (ts : List Test) (fl : Bool) (a : Int) (b : Int) (c : Int) (d : Int) (n1 : Int) (n2 : Int) (n3 : Int) (n4 : Int) (n5 : Int) (n6 : Int) (n7 : Int) (n8 : Int) (sk : List Stk) (sf : Bool) (stake : Int) (d0 : Int) (d1 : Int) (d2 : Int) (d3 : Int) (no2 : Int) (rate2 : Int) (ts2 : List Test) (fl2 : Bool) (al : Int) (ah : Int) (xs : List RowX) (xn : Int) (xr : Int) (xt : List Test) (xf : Bool) (e : Int) (m : Int) (j : Int) : evRound P M1 8 16 (S8c 43 [.p 2 0, .p 3 0] no rate ts fl a b c d n1 n2 n3 n4 n5 n6 n7 n8 sk sf stake d0 d1 d2 d3 no2 rate2 ts2 fl2 al ah xs xn xr xt xf e m j 1) =
    treeG e (mE 4 ⟨⟨n1, n2, n3, n4, n5, n6, n7, n8, sk⟩, stake, d0, d1⟩ xn xr xt d3) (insideB (mL 4 ⟨⟨n1, n2, n3, n4, n5, n6, n7, n8, sk⟩, stake, d0, d1⟩ xn xr xt d3) (mH 4 ⟨⟨n1, n2, n3, n4, n5, n6, n7, n8, sk⟩, stake, d0, d1⟩ xn xr xt d3) al ah) (some (.ret, S8c 43 [.p 2 0, .p 3 0] no rate ts fl a b c d n1 n2 n3 n4 n5 n6 n7 n8 sk sf stake d0 d1 d2 d3 no2 rate2 ts2 fl2 al ah xs xn xr xt xf e m j 1)) (some (.n, S8c 43 [.p 2 0, .p 3 0] no rate ts fl a b c d n1 n2 n3 n4 n5 n6 n7 n8 sk sf stake d0 d1 d2 d3 no2 rate2 ts2 fl2 al ah xs xn xr xt xf e m j 2)) := by kernel_rfl
theorem r8c_4_2 (no : Int) (rate : Int) (ts : List Test) (fl : Bool) (a : Int) (b : Int) (c : Int) (d : Int) (n1 : Int) (n2 : Int) (n3 : Int) (n4 : Int) (n5 : Int) (n6 : Int) (n7 : Int) (n8 : Int) (sk : List Stk) (sf : Bool) (stake : Int) (d0 : Int) (d1 : Int) (d2 : Int) (d3 : Int) (no2 : Int) (rate2 : Int) (ts2 : List Test) (fl2 : Bool) (al : Int) (ah : Int) (xs : List RowX) (xn : Int) (xr : Int) (xt : List Test) (xf : Bool) (e : Int) (m : Int) (j : Int) : evRound P M1 8 16 (S8c 43 [.p 2 0, .p 3 0] no rate ts fl a b c d n1 n2 n3 n4 n5 n6 n7 n8 sk sf stake d0 d1 d2 d3 no2 rate2 ts2 fl2 al ah xs xn xr xt xf e m j 2) = some (.exit 4, S8c 43 [.p 2 0, .p 3 0] no rate ts fl a b c d n1 n2 n3 n4 n5 n6 n7 n8 sk sf stake d0 d1 d2 d3 no2 rate2 ts2 fl2 al ah xs xn xr xt xf e m j 2) := by kernel_rfl
theorem lrun8c_4 (h : HooksOK P X noHooks) (no : Int) (rate : Int) (ts : List Test) (fl : Bool) (a : Int) (b : Int) (c : Int) (d : Int) (n1 : Int) (n2 : Int) (n3 : Int) (n4 : Int) (n5 : Int) (n6 : Int) (n7 : Int) (n8 : Int) (sk : List Stk) (sf : Bool) (stake : Int) (d0 : Int) (d1 : Int) (d2 : Int) (d3 : Int) (no2 : Int) (rate2 : Int) (ts2 : List Test) (fl2 : Bool) (al : Int) (ah : Int) (xs : List RowX) (xn : Int) (xr : Int) (xt : List Test) (xf : Bool) (e : Int) (m : Int) (j : Int) (hg : good2 4 ⟨⟨n1, n2, n3, n4, n5, n6, n7, n8, sk⟩, stake, d0, d1⟩ e al ah xn xr xt d2 d3 = true) : LoopV P X 8 16 (S8c 43 [.p 2 0, .p 3 0] no rate ts fl a b c d n1 n2 n3 n4 n5 n6 n7 n8 sk sf stake d0 d1 d2 d3 no2 rate2 ts2 fl2 al ah xs xn xr xt xf e m j 0) (.exit 4) (S8c 43 [.p 2 0, .p 3 0] no rate ts fl a b c d n1 n2 n3 n4 n5 n6 n7 n8 sk sf stake d0 d1 d2 d3 no2 rate2 ts2 fl2 al ah xs xn xr xt xf e m j 2) := by
  unfold good2 good1 at hg
  rw [Bool.and_eq_true] at hg
  exact LoopV.step (M1_ok h) ((r8c_4_0 ..).trans (treeG_good hg.1)) (LoopV.step (M1_ok h) ((r8c_4_1 ..).trans (treeG_good hg.2)) (LoopV.last (M1_ok h) (r8c_4_2 ..) (by simp)))
theorem r8c_5_0 (no : Int) (rate : Int) (ts : List Test) (fl : Bool) (a : Int) (b : Int) (c : Int) (d : Int) (n1 : Int) (n2 : Int) (n3 : Int) (n4 : Int) (n5 : Int) (n6 : Int) (n7 : Int) (n8 : Int) (sk : List Stk) (sf : Bool) (stake : Int) (d0 : Int) (d1 : Int) (d2 : Int) (d3 : Int) (no2 : Int) (rate2 : Int) (ts2 : List Test) (fl2 : Bool) (al : Int) (ah : Int) (xs : List RowX) (xn : Int) (xr : Int) (xt : List Test) (xf : Bool) (e : Int) (m : Int) (j : Int) : evRound P M1 8 16 (S8c 45 [.p 2 0] no rate ts fl a b c d n1 n2 n3 n4 n5 n6 n7 n8 sk sf stake d0 d1 d2 d3 no2 rate2 ts2 fl2 al ah xs xn xr xt xf e m j 0) =
    treeG e (mE 5 ⟨⟨n1, n2, n3, n4, n5, n6, n7, n8, sk⟩, stake, d0, d1⟩ xn xr xt d2) (insideB (mL 5 ⟨⟨n1, n2, n3, n4, n5, n6, n7, n8, sk⟩, stake, d0, d1⟩ xn xr xt d2) (mH 5 ⟨⟨n1, n2, n3, n4, n5, n6, n7, n8, sk⟩, stake, d0, d1⟩ xn xr xt d2) al ah) (some (.ret, S8c 45 [.p 2 0] no rate ts fl a b c d n1 n2 n3 n4 n5 n6 n7 n8 sk sf stake d0 d1 d2 d3 no2 rate2 ts2 fl2 al ah xs xn xr xt xf e m j 0)) (some (.n, S8c 45 [.p 2 0] no rate ts fl a b c d n1 n2 n3 n4 n5 n6 n7 n8 sk sf stake d0 d1 d2 d3 no2 rate2 ts2 fl2 al ah xs xn xr xt xf e m j 1)) := by kernel_rfl
theorem r8c_5_1 (no : Int) (rate : Int) (ts : List Test) (fl : Bool) (a : Int) (b : Int) (c : Int) (d : Int) (n1 : Int) (n2 : Int) (n3 : Int) (n4 : Int) (n5 : Int) (n6 : Int) (n7 : Int) (n8 : Int) (sk : List Stk) (sf : Bool) (stake : Int) (d0 : Int) (d1 : Int) (d2 : Int) (d3 : Int) (no2 : Int) (rate2 : Int) (ts2 : List Test) (fl2 : Bool) (al : Int) (ah : Int) (xs : List RowX) (xn : Int) (xr : Int) (xt : List Test) (xf : Bool) (e : Int) (m : Int) (j : Int) : evRound P M1 8 16 (S8c 45 [.p 2 0] no rate ts fl a b c d n1 n2 n3 n4 n5 n6 n7 n8 sk sf stake d0 d1 d2 d3 no2 rate2 ts2 fl2 al ah xs xn xr xt xf e m j 1) =
    treeG e (mE 5 ⟨⟨n1, n2, n3, n4, n5, n6, n7, n8, sk⟩, stake, d0, d1⟩ xn xr xt d3) (insideB (mL 5 ⟨⟨n1, n2, n3, n4, n5, n6, n7, n8, sk⟩, stake, d0, d1⟩ xn xr xt d3) (mH 5 ⟨⟨n1, n2, n3, n4, n5, n6, n7, n8, sk⟩, stake, d0, d1⟩ xn xr xt d3) al ah) (some (.ret, S8c 45 [.p 2 0] no rate ts fl a b c d n1 n2 n3 n4 n5 n6 n7 n8 sk sf stake d0 d1 d2 d3 no2 rate2 ts2 fl2 al ah xs xn xr xt xf e m j 1)) (some (.n, S8c 45 [.p 2 0] no rate ts fl a b c d n1 n2 n3 n4 n5 n6 n7 n8 sk sf stake d0 d1 d2 d3 no2 rate2 ts2 fl2 al ah xs xn xr xt xf e m j 2)) := by kernel_rfl
theorem r8c_5_2 (no : Int) (rate : Int) (ts : List Test) (fl : Bool) (a : Int) (b : Int) (c : Int) (d : Int) (n1 : Int) (n2 : Int) (n3 : Int) (n4 : Int) (n5 : Int) (n6 : Int) (n7 : Int) (n8 : Int) (sk : List Stk) (sf : Bool) (stake : Int) (d0 : Int) (d1 : Int) (d2 : Int) (d3 : Int) (no2 : Int) (rate2 : Int) (ts2 : List Test) (fl2 : Bool) (al : Int) (ah : Int) (xs : List RowX) (xn : Int) (xr : Int) (xt : List Test) (xf : Bool) (e : Int) (m : Int) (j : Int) : evRound P M1 8 16 (S8c 45 [.p 2 0] no rate ts fl a b c d n1 n2 n3 n4 n5 n6 n7 n8 sk sf stake d0 d1 d2 d3 no2 rate2 ts2 fl2 al ah xs xn xr xt xf e m j 2) = some (.exit 4, S8c 45 [.p 2 0] no rate ts fl a b c d n1 n2 n3 n4 n5 n6 n7 n8 sk sf stake d0 d1 d2 d3 no2 rate2 ts2 fl2 al ah xs xn xr xt xf e m j 2) := by kernel_rfl
theorem lrun8c_5 (h : HooksOK P X noHooks) (no : Int) (rate : Int) (ts : List Test) (fl : Bool) (a : Int) (b : Int) (c : Int) (d : Int) (n1 : Int) (n2 : Int) (n3 : Int) (n4 : Int) (n5 : Int) (n6 : Int) (n7 : Int) (n8 : Int) (sk : List Stk) (sf : Bool) (stake : Int) (d0 : Int) (d1 : Int) (d2 : Int) (d3 : Int) (no2 : Int) (rate2 : Int) (ts2 : List Test) (fl2 : Bool) (al : Int) (ah : Int) (xs : List RowX) (xn : Int) (xr : Int) (xt : List Test) (xf : Bool) (e : Int) (m : Int) (j : Int) (hg : good2 5 ⟨⟨n1, n2, n3, n4, n5, n6, n7, n8, sk⟩, stake, d0, d1⟩ e al ah xn xr xt d2 d3 = true) : LoopV P X 8 16 (S8c 45 [.p 2 0] no rate ts fl a b c d n1 n2 n3 n4 n5 n6 n7 n8 sk sf stake d0 d1 d2 d3 no2 rate2 ts2 fl2 al ah xs xn xr xt xf e m j 0) (.exit 4) (S8c 45 [.p 2 0] no rate ts fl a b c d n1 n2 n3 n4 n5 n6 n7 n8 sk sf stake d0 d1 d2 d3 no2 rate2 ts2 fl2 al ah xs xn xr xt xf e m j 2) := by
  unfold good2 good1 at hg
  rw [Bool.and_eq_true] at hg
  exact LoopV.step (M1_ok h) ((r8c_5_0 ..).trans (treeG_good hg.1)) (LoopV.step (M1_ok h) ((r8c_5_1 ..).trans (treeG_good hg.2)) (LoopV.last (M1_ok h) (r8c_5_2 ..) (by simp)))
theorem vOf_cases {g : FuncId} {caps : List V} {v : Nat} (h : vOf g caps = some v) : (v = 0 ∧ g = 39 ∧ caps = [.p 4 0]) ∨ (v = 1 ∧ g = 40 ∧ caps = [.p 4 0]) ∨ (v = 2 ∧ g = 41 ∧ caps = [.p 2 0, .p 3 0]) ∨ (v = 3 ∧ g = 42 ∧ caps = [.p 2 0, .p 3 0]) ∨ (v = 4 ∧ g = 43 ∧ caps = [.p 2 0, .p 3 0]) ∨ (v = 5 ∧ g = 45 ∧ caps = [.p 2 0]) := by
  unfold vOf at h
  split at h <;> cases h <;> simp
noncomputable def COND8c (g : FuncId) (caps : List V) (no : Int) (rate : Int) (ts : List Test) (fl : Bool) (a : Int) (b : Int) (c : Int) (d : Int) (n1 : Int) (n2 : Int) (n3 : Int) (n4 : Int) (n5 : Int) (n6 : Int) (n7 : Int) (n8 : Int) (sk : List Stk) (sf : Bool) (stake : Int) (d0 : Int) (d1 : Int) (d2 : Int) (d3 : Int) (no2 : Int) (rate2 : Int) (ts2 : List Test) (fl2 : Bool) (al : Int) (ah : Int) (xs : List RowX) (xn : Int) (xr : Int) (xt : List Test) (xf : Bool) (e : Int) (m : Int) (j : Int) : Bool := match vOf g caps with | some v => good2 v ⟨⟨n1, n2, n3, n4, n5, n6, n7, n8, sk⟩, stake, d0, d1⟩ e al ah xn xr xt d2 d3 | none => false
noncomputable def l8c : St → Option (Tr (Ex × St)) := hookS (fun st => S8c (vG (eget st.env 14)) (vC (eget st.env 14)) (vI (hC st.hp 0 0)) (vI (hC st.hp 0 1)) (vL [.i .i64, .i .i64, .i .i64, .i .i64] (hC st.hp 0 2)) (vF (hC st.hp 0 2)) (vI (hC st.hp 1 0)) (vI (hC st.hp 1 1)) (vI (hC st.hp 1 2)) (vI (hC st.hp 1 3)) (vI (hC st.hp 2 0)) (vI (hC st.hp 2 1)) (vI (hC st.hp 2 2)) (vI (hC st.hp 2 3)) (vI (hC st.hp 2 4)) (vI (hC st.hp 2 5)) (vI (hC st.hp 2 6)) (vI (hC st.hp 2 7)) (vL [.i .i64, .i .i64, .i .i64, .i .i64, .i .i64] (hC st.hp 2 8)) (vF (hC st.hp 2 8)) (vI (hC st.hp 3 0)) (vI (hC st.hp 4 0)) (vI (hC st.hp 4 1)) (vI (hC st.hp 4 2)) (vI (hC st.hp 4 3)) (vI (hC st.hp 5 0)) (vI (hC st.hp 5 1)) (vL [.i .i64, .i .i64, .i .i64, .i .i64] (hC st.hp 5 2)) (vF (hC st.hp 5 2)) (vI (hC st.hp 7 0)) (vI (hC st.hp 7 1)) (hL [.i .i64, .i .i64, .sl [.i .i64, .i .i64, .i .i64, .i .i64]] st.hp 8) (vI (hC st.hp 9 0)) (vI (hC st.hp 9 1)) (vL [.i .i64, .i .i64, .i .i64, .i .i64] (hC st.hp 9 2)) (vF (hC st.hp 9 2)) (vI (eget st.env 16)) (vI (eget st.env 59)) (vI (eget st.env 75)) 0) (fun st => S8c (vG (eget st.env 14)) (vC (eget st.env 14)) (vI (hC st.hp 0 0)) (vI (hC st.hp 0 1)) (vL [.i .i64, .i .i64, .i .i64, .i .i64] (hC st.hp 0 2)) (vF (hC st.hp 0 2)) (vI (hC st.hp 1 0)) (vI (hC st.hp 1 1)) (vI (hC st.hp 1 2)) (vI (hC st.hp 1 3)) (vI (hC st.hp 2 0)) (vI (hC st.hp 2 1)) (vI (hC st.hp 2 2)) (vI (hC st.hp 2 3)) (vI (hC st.hp 2 4)) (vI (hC st.hp 2 5)) (vI (hC st.hp 2 6)) (vI (hC st.hp 2 7)) (vL [.i .i64, .i .i64, .i .i64, .i .i64, .i .i64] (hC st.hp 2 8)) (vF (hC st.hp 2 8)) (vI (hC st.hp 3 0)) (vI (hC st.hp 4 0)) (vI (hC st.hp 4 1)) (vI (hC st.hp 4 2)) (vI (hC st.hp 4 3)) (vI (hC st.hp 5 0)) (vI (hC st.hp 5 1)) (vL [.i .i64, .i .i64, .i .i64, .i .i64] (hC st.hp 5 2)) (vF (hC st.hp 5 2)) (vI (hC st.hp 7 0)) (vI (hC st.hp 7 1)) (hL [.i .i64, .i .i64, .sl [.i .i64, .i .i64, .i .i64, .i .i64]] st.hp 8) (vI (hC st.hp 9 0)) (vI (hC st.hp 9 1)) (vL [.i .i64, .i .i64, .i .i64, .i .i64] (hC st.hp 9 2)) (vF (hC st.hp 9 2)) (vI (eget st.env 16)) (vI (eget st.env 59)) (vI (eget st.env 75)) 2) (fun st => COND8c (vG (eget st.env 14)) (vC (eget st.env 14)) (vI (hC st.hp 0 0)) (vI (hC st.hp 0 1)) (vL [.i .i64, .i .i64, .i .i64, .i .i64] (hC st.hp 0 2)) (vF (hC st.hp 0 2)) (vI (hC st.hp 1 0)) (vI (hC st.hp 1 1)) (vI (hC st.hp 1 2)) (vI (hC st.hp 1 3)) (vI (hC st.hp 2 0)) (vI (hC st.hp 2 1)) (vI (hC st.hp 2 2)) (vI (hC st.hp 2 3)) (vI (hC st.hp 2 4)) (vI (hC st.hp 2 5)) (vI (hC st.hp 2 6)) (vI (hC st.hp 2 7)) (vL [.i .i64, .i .i64, .i .i64, .i .i64, .i .i64] (hC st.hp 2 8)) (vF (hC st.hp 2 8)) (vI (hC st.hp 3 0)) (vI (hC st.hp 4 0)) (vI (hC st.hp 4 1)) (vI (hC st.hp 4 2)) (vI (hC st.hp 4 3)) (vI (hC st.hp 5 0)) (vI (hC st.hp 5 1)) (vL [.i .i64, .i .i64, .i .i64, .i .i64] (hC st.hp 5 2)) (vF (hC st.hp 5 2)) (vI (hC st.hp 7 0)) (vI (hC st.hp 7 1)) (hL [.i .i64, .i .i64, .sl [.i .i64, .i .i64, .i .i64, .i .i64]] st.hp 8) (vI (hC st.hp 9 0)) (vI (hC st.hp 9 1)) (vL [.i .i64, .i .i64, .i .i64, .i .i64] (hC st.hp 9 2)) (vF (hC st.hp 9 2)) (vI (eget st.env 16)) (vI (eget st.env 59)) (vI (eget st.env 75))) (.exit 4)
theorem lkey8c (h : HooksOK P X noHooks) {st : St} {g : FuncId} {caps : List V} {no : Int} {rate : Int} {ts : List Test} {fl : Bool} {a : Int} {b : Int} {c : Int} {d : Int} {n1 : Int} {n2 : Int} {n3 : Int} {n4 : Int} {n5 : Int} {n6 : Int} {n7 : Int} {n8 : Int} {sk : List Stk} {sf : Bool} {stake : Int} {d0 : Int} {d1 : Int} {d2 : Int} {d3 : Int} {no2 : Int} {rate2 : Int} {ts2 : List Test} {fl2 : Bool} {al : Int} {ah : Int} {xs : List RowX} {xn : Int} {xr : Int} {xt : List Test} {xf : Bool} {e : Int} {m : Int} {j : Int} (hs : st = S8c g caps no rate ts fl a b c d n1 n2 n3 n4 n5 n6 n7 n8 sk sf stake d0 d1 d2 d3 no2 rate2 ts2 fl2 al ah xs xn xr xt xf e m j 0) (hg : COND8c g caps no rate ts fl a b c d n1 n2 n3 n4 n5 n6 n7 n8 sk sf stake d0 d1 d2 d3 no2 rate2 ts2 fl2 al ah xs xn xr xt xf e m j = true) : LoopV P X 8 16 st (.exit 4) (S8c g caps no rate ts fl a b c d n1 n2 n3 n4 n5 n6 n7 n8 sk sf stake d0 d1 d2 d3 no2 rate2 ts2 fl2 al ah xs xn xr xt xf e m j 2) := by
  subst hs
  cases hv : vOf g caps with
  | none => unfold COND8c at hg; rw [hv] at hg; cases hg
  | some v =>
    unfold COND8c at hg; rw [hv] at hg
    rcases vOf_cases hv with ⟨rfl, rfl, rfl⟩ | ⟨rfl, rfl, rfl⟩ | ⟨rfl, rfl, rfl⟩ | ⟨rfl, rfl, rfl⟩ | ⟨rfl, rfl, rfl⟩ | ⟨rfl, rfl, rfl⟩
    · exact lrun8c_0 h _ _ _ _ _ _ _ _ _ _ _ _ _ _ _ _ _ _ _ _ _ _ _ _ _ _ _ _ _ _ _ _ _ _ _ _ _ hg
    · exact lrun8c_1 h _ _ _ _ _ _ _ _ _ _ _ _ _ _ _ _ _ _ _ _ _ _ _ _ _ _ _ _ _ _ _ _ _ _ _ _ _ hg
    · exact lrun8c_2 h _ _ _ _ _ _ _ _ _ _ _ _ _ _ _ _ _ _ _ _ _ _ _ _ _ _ _ _ _ _ _ _ _ _ _ _ _ hg
    · exact lrun8c_3 h _ _ _ _ _ _ _ _ _ _ _ _ _ _ _ _ _ _ _ _ _ _ _ _ _ _ _ _ _ _ _ _ _ _ _ _ _ hg
    · exact lrun8c_4 h _ _ _ _ _ _ _ _ _ _ _ _ _ _ _ _ _ _ _ _ _ _ _ _ _ _ _ _ _ _ _ _ _ _ _ _ _ hg
    · exact lrun8c_5 h _ _ _ _ _ _ _ _ _ _ _ _ _ _ _ _ _ _ _ _ _ _ _ _ _ _ _ _ _ _ _ _ _ _ _ _ _ hg
theorem lok8c (h : HooksOK P X noHooks) : ∀ st t e st', l8c st = some t → t.get = some (e, st') → LoopV P X 8 16 st e st' := lok_same fun st hs hg => lkey8c h hs hg
noncomputable def M2 : Hooks := M1.loop1 8 16 l8c
theorem M2_ok (h : HooksOK P X noHooks) : HooksOK P X M2 := (M1_ok h).loop1 (lok8c h)
def S8x (g : FuncId) (caps : List V) (no : Int) (rate : Int) (ts : List Test) (fl : Bool) (a : Int) (b : Int) (c : Int) (d : Int) (n1 : Int) (n2 : Int) (n3 : Int) (n4 : Int) (n5 : Int) (n6 : Int) (n7 : Int) (n8 : Int) (sk : List Stk) (sf : Bool) (stake : Int) (d0 : Int) (d1 : Int) (d2 : Int) (d3 : Int) (no2 : Int) (rate2 : Int) (ts2 : List Test) (fl2 : Bool) (al : Int) (ah : Int) (xs : List RowX) (e : Int) (m : Int) (j : Int) : St :=
  ⟨[(5, .p 0 0), (9, .p 4 0), (10, .b false), (11, .p 5 0), (14, .fn g [] caps), (15, .p 7 0), (16, .i .i64 e), (57, .sc 6 0 6 1), (58, .i .i64 6), (59, .i .i64 m), (73, .sl 8), (74, .i .i64 2), (75, .i .i64 j)], [.c 24 [.i .i64 no, .i .i64 rate, .ls [.i .i64, .i .i64, .i .i64, .i .i64] ts fl], .c 26 [.i .i64 a, .i .i64 b, .i .i64 c, .i .i64 d], .c 47 [.i .i64 n1, .i .i64 n2, .i .i64 n3, .i .i64 n4, .i .i64 n5, .i .i64 n6, .i .i64 n7, .i .i64 n8, .ls [.i .i64, .i .i64, .i .i64, .i .i64, .i .i64] sk sf], .c 3 [.i .i64 stake], .c 61 [.i .i64 d0, .i .i64 d1, .i .i64 d2, .i .i64 d3], .c 24 [.i .i64 no2, .i .i64 rate2, .ls [.i .i64, .i .i64, .i .i64, .i .i64] ts2 fl2], .c 65 [.fn 39 [] [.p 4 0], .fn 40 [] [.p 4 0], .fn 41 [] [.p 2 0, .p 3 0], .fn 42 [] [.p 2 0, .p 3 0], .fn 43 [] [.p 2 0, .p 3 0], .fn 45 [] [.p 2 0]], .c 40 [.i .i64 al, .i .i64 ah], .r 24 [.i .i64, .i .i64, .sl [.i .i64, .i .i64, .i .i64, .i .i64]] xs false], []⟩
theorem r8x_0_0 (no : Int) (rate : Int) (ts : List Test) (fl : Bool) (a : Int) (b : Int) (c : Int) (d : Int) (n1 : Int) (n2 : Int) (n3 : Int) (n4 : Int) (n5 : Int) (n6 : Int) (n7 : Int) (n8 : Int) (sk : List Stk) (sf : Bool) (stake : Int) (d0 : Int) (d1 : Int) (d2 : Int) (d3 : Int) (no2 : Int) (rate2 : Int) (ts2 : List Test) (fl2 : Bool) (al : Int) (ah : Int) (e : Int) (m : Int) : evRound P M2 8 13 (S8x 39 [.p 4 0] no rate ts fl a b c d n1 n2 n3 n4 n5 n6 n7 n8 sk sf stake d0 d1 d2 d3 no2 rate2 ts2 fl2 al ah [(no, rate, ts, ()), (no2, rate2, ts2, ())] e m 0) =
    bif sameSt (S8c 39 [.p 4 0] no rate ts fl a b c d n1 n2 n3 n4 n5 n6 n7 n8 sk sf stake d0 d1 d2 d3 no2 rate2 ts2 fl2 al ah [(no, rate, ts, ()), (no2, rate2, ts2, ())] no rate ts false e m 0 0) (S8c 39 [.p 4 0] no rate ts fl a b c d n1 n2 n3 n4 n5 n6 n7 n8 sk sf stake d0 d1 d2 d3 no2 rate2 ts2 fl2 al ah [(no, rate, ts, ()), (no2, rate2, ts2, ())] no rate ts false e m 0 0) && good2 0 ⟨⟨n1, n2, n3, n4, n5, n6, n7, n8, sk⟩, stake, d0, d1⟩ e al ah no rate ts d2 d3 then some (.n, S8x 39 [.p 4 0] no rate ts fl a b c d n1 n2 n3 n4 n5 n6 n7 n8 sk sf stake d0 d1 d2 d3 no2 rate2 ts2 fl2 al ah [(no, rate, ts, ()), (no2, rate2, ts2, ())] e m 1) else none := by kernel_rfl
theorem r8x_0_1 (no : Int) (rate : Int) (ts : List Test) (fl : Bool) (a : Int) (b : Int) (c : Int) (d : Int) (n1 : Int) (n2 : Int) (n3 : Int) (n4 : Int) (n5 : Int) (n6 : Int) (n7 : Int) (n8 : Int) (sk : List Stk) (sf : Bool) (stake : Int) (d0 : Int) (d1 : Int) (d2 : Int) (d3 : Int) (no2 : Int) (rate2 : Int) (ts2 : List Test) (fl2 : Bool) (al : Int) (ah : Int) (e : Int) (m : Int) : evRound P M2 8 13 (S8x 39 [.p 4 0] no rate ts fl a b c d n1 n2 n3 n4 n5 n6 n7 n8 sk sf stake d0 d1 d2 d3 no2 rate2 ts2 fl2 al ah [(no, rate, ts, ()), (no2, rate2, ts2, ())] e m 1) =
    bif sameSt (S8c 39 [.p 4 0] no rate ts fl a b c d n1 n2 n3 n4 n5 n6 n7 n8 sk sf stake d0 d1 d2 d3 no2 rate2 ts2 fl2 al ah [(no, rate, ts, ()), (no2, rate2, ts2, ())] no2 rate2 ts2 false e m 1 0) (S8c 39 [.p 4 0] no rate ts fl a b c d n1 n2 n3 n4 n5 n6 n7 n8 sk sf stake d0 d1 d2 d3 no2 rate2 ts2 fl2 al ah [(no, rate, ts, ()), (no2, rate2, ts2, ())] no2 rate2 ts2 false e m 1 0) && good2 0 ⟨⟨n1, n2, n3, n4, n5, n6, n7, n8, sk⟩, stake, d0, d1⟩ e al ah no2 rate2 ts2 d2 d3 then some (.n, S8x 39 [.p 4 0] no rate ts fl a b c d n1 n2 n3 n4 n5 n6 n7 n8 sk sf stake d0 d1 d2 d3 no2 rate2 ts2 fl2 al ah [(no, rate, ts, ()), (no2, rate2, ts2, ())] e m 2) else none := by kernel_rfl
theorem r8x_0_2 (no : Int) (rate : Int) (ts : List Test) (fl : Bool) (a : Int) (b : Int) (c : Int) (d : Int) (n1 : Int) (n2 : Int) (n3 : Int) (n4 : Int) (n5 : Int) (n6 : Int) (n7 : Int) (n8 : Int) (sk : List Stk) (sf : Bool) (stake : Int) (d0 : Int) (d1 : Int) (d2 : Int) (d3 : Int) (no2 : Int) (rate2 : Int) (ts2 : List Test) (fl2 : Bool) (al : Int) (ah : Int) (e : Int) (m : Int) : evRound P M2 8 13 (S8x 39 [.p 4 0] no rate ts fl a b c d n1 n2 n3 n4 n5 n6 n7 n8 sk sf stake d0 d1 d2 d3 no2 rate2 ts2 fl2 al ah [(no, rate, ts, ()), (no2, rate2, ts2, ())] e m 2) = some (.exit 2, S8x 39 [.p 4 0] no rate ts fl a b c d n1 n2 n3 n4 n5 n6 n7 n8 sk sf stake d0 d1 d2 d3 no2 rate2 ts2 fl2 al ah [(no, rate, ts, ()), (no2, rate2, ts2, ())] e m 2) := by kernel_rfl
theorem lrun8x_0 (h : HooksOK P X noHooks) (no : Int) (rate : Int) (ts : List Test) (fl : Bool) (a : Int) (b : Int) (c : Int) (d : Int) (n1 : Int) (n2 : Int) (n3 : Int) (n4 : Int) (n5 : Int) (n6 : Int) (n7 : Int) (n8 : Int) (sk : List Stk) (sf : Bool) (stake : Int) (d0 : Int) (d1 : Int) (d2 : Int) (d3 : Int) (no2 : Int) (rate2 : Int) (ts2 : List Test) (fl2 : Bool) (al : Int) (ah : Int) (e : Int) (m : Int) (hg : (good2 0 ⟨⟨n1, n2, n3, n4, n5, n6, n7, n8, sk⟩, stake, d0, d1⟩ e al ah no rate ts d2 d3 && good2 0 ⟨⟨n1, n2, n3, n4, n5, n6, n7, n8, sk⟩, stake, d0, d1⟩ e al ah no2 rate2 ts2 d2 d3) = true) : LoopV P X 8 13 (S8x 39 [.p 4 0] no rate ts fl a b c d n1 n2 n3 n4 n5 n6 n7 n8 sk sf stake d0 d1 d2 d3 no2 rate2 ts2 fl2 al ah [(no, rate, ts, ()), (no2, rate2, ts2, ())] e m 0) (.exit 2) (S8x 39 [.p 4 0] no rate ts fl a b c d n1 n2 n3 n4 n5 n6 n7 n8 sk sf stake d0 d1 d2 d3 no2 rate2 ts2 fl2 al ah [(no, rate, ts, ()), (no2, rate2, ts2, ())] e m 2) := by
  rw [Bool.and_eq_true] at hg
  exact LoopV.step (M2_ok h) ((r8x_0_0 ..).trans (cond_pos (by rw [hg.1, sameSt_s.2 rfl]; rfl) _ _)) (LoopV.step (M2_ok h) ((r8x_0_1 ..).trans (cond_pos (by rw [hg.2, sameSt_s.2 rfl]; rfl) _ _)) (LoopV.last (M2_ok h) (r8x_0_2 ..) (by simp)))
theorem r8x_1_0 (no : Int) (rate : Int) (ts : List Test) (fl : Bool) (a : Int) (b : Int) (c : Int) (d : Int) (n1 : Int) (n2 : Int) (n3 : Int) (n4 : Int) (n5 : Int) (n6 : Int) (n7 : Int) (n8 : Int) (sk : List Stk) (sf : Bool) (stake : Int) (d0 : Int) (d1 : Int) (d2 : Int) (d3 : Int) (no2 : Int) (rate2 : Int) (ts2 : List Test) (fl2 : Bool) (al : Int) (ah : Int) (e : Int) (m : Int) : evRound P M2 8 13 (S8x 40 [.p 4 0] no rate ts fl a b c d n1 n2 n3 n4 n5 n6 n7 n8 sk sf stake d0 d1 d2 d3 no2 rate2 ts2 fl2 al ah [(no, rate, ts, ()), (no2, rate2, ts2, ())] e m 0) =
    bif sameSt (S8c 40 [.p 4 0] no rate ts fl a b c d n1 n2 n3 n4 n5 n6 n7 n8 sk sf stake d0 d1 d2 d3 no2 rate2 ts2 fl2 al ah [(no, rate, ts, ()), (no2, rate2, ts2, ())] no rate ts false e m 0 0) (S8c 40 [.p 4 0] no rate ts fl a b c d n1 n2 n3 n4 n5 n6 n7 n8 sk sf stake d0 d1 d2 d3 no2 rate2 ts2 fl2 al ah [(no, rate, ts, ()), (no2, rate2, ts2, ())] no rate ts false e m 0 0) && good2 1 ⟨⟨n1, n2, n3, n4, n5, n6, n7, n8, sk⟩, stake, d0, d1⟩ e al ah no rate ts d2 d3 then some (.n, S8x 40 [.p 4 0] no rate ts fl a b c d n1 n2 n3 n4 n5 n6 n7 n8 sk sf stake d0 d1 d2 d3 no2 rate2 ts2 fl2 al ah [(no, rate, ts, ()), (no2, rate2, ts2, ())] e m 1) else none := by kernel_rfl
theorem r8x_1_1 (no : Int) (rate : Int) (ts : List Test) (fl : Bool) (a : Int) (b : Int) (c : Int) (d : Int) (n1 : Int) (n2 : Int) (n3 : Int) (n4 : Int) (n5 : Int) (n6 : Int) (n7 : Int) (n8 : Int) (sk : List Stk) (sf : Bool) (stake : Int) (d0 : Int) (d1 : Int) (d2 : Int) (d3 : Int) (no2 : Int) (rate2 : Int) (ts2 : List Test) (fl2 : Bool) (al : Int) (ah : Int) (e : Int) (m : Int) : evRound P M2 8 13 (S8x 40 [.p 4 0] no rate ts fl a b c d n1 n2 n3 n4 n5 n6 n7 n8 sk sf stake d0 d1 d2 d3 no2 rate2 ts2 fl2 al ah [(no, rate, ts, ()), (no2, rate2, ts2, ())] e m 1) =
    bif sameSt (S8c 40 [.p 4 0] no rate ts fl a b c d n1 n2 n3 n4 n5 n6 n7 n8 sk sf stake d0 d1 d2 d3 no2 rate2 ts2 fl2 al ah [(no, rate, ts, ()), (no2, rate2, ts2, ())] no2 rate2 ts2 false e m 1 0) (S8c 40 [.p 4 0] no rate ts fl a b c d n1 n2 n3 n4 n5 n6 n7 n8 sk sf stake d0 d1 d2 d3 no2 rate2 ts2 fl2 al ah [(no, rate, ts, ()), (no2, rate2, ts2, ())] no2 rate2 ts2 false e m 1 0) && good2 1 ⟨⟨n1, n2, n3, n4, n5, n6, n7, n8, sk⟩, stake, d0, d1⟩ e al ah no2 rate2 ts2 d2 d3 then some (.n, S8x 40 [.p 4 0] no rate ts fl a b c d n1 n2 n3 n4 n5 n6 n7 n8 sk sf stake d0 d1 d2 d3 no2 rate2 ts2 fl2 al ah [(no, rate, ts, ()), (no2, rate2, ts2, ())] e m 2) else none := by kernel_rfl
theorem r8x_1_2 (no : Int) (rate : Int) (ts : List Test) (fl : Bool) (a : Int) (b : Int) (c : Int) (d : Int) (n1 : Int) (n2 : Int) (n3 : Int) (n4 : Int) (n5 : Int) (n6 : Int) (n7 : Int) (n8 : Int) (sk : List Stk) (sf : Bool) (stake : Int) (d0 : Int) (d1 : Int) (d2 : Int) (d3 : Int) (no2 : Int) (rate2 : Int) (ts2 : List Test) (fl2 : Bool) (al : Int) (ah : Int) (e : Int) (m : Int) : evRound P M2 8 13 (S8x 40 [.p 4 0] no rate ts fl a b c d n1 n2 n3 n4 n5 n6 n7 n8 sk sf stake d0 d1 d2 d3 no2 rate2 ts2 fl2 al ah [(no, rate, ts, ()), (no2, rate2, ts2, ())] e m 2) = some (.exit 2, S8x 40 [.p 4 0] no rate ts fl a b c d n1 n2 n3 n4 n5 n6 n7 n8 sk sf stake d0 d1 d2 d3 no2 rate2 ts2 fl2 al ah [(no, rate, ts, ()), (no2, rate2, ts2, ())] e m 2) := by kernel_rfl
theorem lrun8x_1 (h : HooksOK P X noHooks) (no : Int) (rate : Int) (ts : List Test) (fl : Bool) (a : Int) (b : Int) (c : Int) (d : Int) (n1 : Int) (n2 : Int) (n3 : Int) (n4 : Int) (n5 : Int) (n6 : Int) (n7 : Int) (n8 : Int) (sk : List Stk) (sf : Bool) (stake : Int) (d0 : Int) (d1 : Int) (d2 : Int) (d3 : Int) (no2 : Int) (rate2 : Int) (ts2 : List Test) (fl2 : Bool) (al : Int) (ah : Int) (e : Int) (m : Int) (hg : (good2 1 ⟨⟨n1, n2, n3, n4, n5, n6, n7, n8, sk⟩, stake, d0, d1⟩ e al ah no rate ts d2 d3 && good2 1 ⟨⟨n1, n2, n3, n4, n5, n6, n7, n8, sk⟩, stake, d0, d1⟩ e al ah no2 rate2 ts2 d2 d3) = true) : LoopV P X 8 13 (S8x 40 [.p 4 0] no rate ts fl a b c d n1 n2 n3 n4 n5 n6 n7 n8 sk sf stake d0 d1 d2 d3 no2 rate2 ts2 fl2 al ah [(no, rate, ts, ()), (no2, rate2, ts2, ())] e m 0) (.exit 2) (S8x 40 [.p 4 0] no rate ts fl a b c d n1 n2 n3 n4 n5 n6 n7 n8 sk sf stake d0 d1 d2 d3 no2 rate2 ts2 fl2 al ah [(no, rate, ts, ()), (no2, rate2, ts2, ())] e m 2) := by
  rw [Bool.and_eq_true] at hg
  exact LoopV.step (M2_ok h) ((r8x_1_0 ..).trans (cond_pos (by rw [hg.1, sameSt_s.2 rfl]; rfl) _ _)) (LoopV.step (M2_ok h) ((r8x_1_1 ..).trans (cond_pos (by rw [hg.2, sameSt_s.2 rfl]; rfl) _ _)) (LoopV.last (M2_ok h) (r8x_1_2 ..) (by simp)))
theorem r8x_2_0 (no : Int) (rate : Int) (ts : List Test) (fl : Bool) (a : Int) (b : Int) (c : Int) (d : Int) (n1 : Int) (n2 : Int) (n3 : Int) (n4 : Int) (n5 : Int) (n6 : Int) (n7 : Int) (n8 : Int) (sk : List Stk) (sf : Bool) (stake : Int) (d0 : Int) (d1 : Int) (d2 : Int) (d3 : Int) (no2 : Int) (rate2 : Int) (ts2 : List Test) (fl2 : Bool) (al : Int) (ah : Int) (e : Int) (m : Int) : evRound P M2 8 13 (S8x 41 [.p 2 0, .p 3 0] no rate ts fl a b c d n1 n2 n3 n4 n5 n6 n7 n8 sk sf stake d0 d1 d2 d3 no2 rate2 ts2 fl2 al ah [(no, rate, ts, ()), (no2, rate2, ts2, ())] e m 0) =
    bif sameSt (S8c 41 [.p 2 0, .p 3 0] no rate ts fl a b c d n1 n2 n3 n4 n5 n6 n7 n8 sk sf stake d0 d1 d2 d3 no2 rate2 ts2 fl2 al ah [(no, rate, ts, ()), (no2, rate2, ts2, ())] no rate ts false e m 0 0) (S8c 41 [.p 2 0, .p 3 0] no rate ts fl a b c d n1 n2 n3 n4 n5 n6 n7 n8 sk sf stake d0 d1 d2 d3 no2 rate2 ts2 fl2 al ah [(no, rate, ts, ()), (no2, rate2, ts2, ())] no rate ts false e m 0 0) && good2 2 ⟨⟨n1, n2, n3, n4, n5, n6, n7, n8, sk⟩, stake, d0, d1⟩ e al ah no rate ts d2 d3 then some (.n, S8x 41 [.p 2 0, .p 3 0] no rate ts fl a b c d n1 n2 n3 n4 n5 n6 n7 n8 sk sf stake d0 d1 d2 d3 no2 rate2 ts2 fl2 al ah [(no, rate, ts, ()), (no2, rate2, ts2, ())] e m 1) else none := by kernel_rfl
theorem r8x_2_1 (no : Int) (rate : Int) (ts : List Test) (fl : Bool) (a : Int) (b : Int) (c : Int) (d : Int) (n1 : Int) (n2 : Int) (n3 : Int) (n4 : Int) (n5 : Int) (n6 : Int) (n7 : Int) (n8 : Int) (sk : List Stk) (sf : Bool) (stake : Int) (d0 : Int) (d1 : Int) (d2 : Int) (d3 : Int) (no2 : Int) (rate2 : Int) (ts2 : List Test) (fl2 : Bool) (al : Int) (ah : Int) (e : Int) (m : Int) : evRound P M2 8 13 (S8x 41 [.p 2 0, .p 3 0] no rate ts fl a b c d n1 n2 n3 n4 n5 n6 n7 n8 sk sf stake d0 d1 d2 d3 no2 rate2 ts2 fl2 al ah [(no, rate, ts, ()), (no2, rate2, ts2, ())] e m 1) =
    bif sameSt (S8c 41 [.p 2 0, .p 3 0] no rate ts fl a b c d n1 n2 n3 n4 n5 n6 n7 n8 sk sf stake d0 d1 d2 d3 no2 rate2 ts2 fl2 al ah [(no, rate, ts, ()), (no2, rate2, ts2, ())] no2 rate2 ts2 false e m 1 0) (S8c 41 [.p 2 0, .p 3 0] no rate ts fl a b c d n1 n2 n3 n4 n5 n6 n7 n8 sk sf stake d0 d1 d2 d3 no2 rate2 ts2 fl2 al ah [(no, rate, ts, ()), (no2, rate2, ts2, ())] no2 rate2 ts2 false e m 1 0) && good2 2 ⟨⟨n1, n2, n3, n4, n5, n6, n7, n8, sk⟩, stake, d0, d1⟩ e al ah no2 rate2 ts2 d2 d3 then some (.n, S8x 41 [.p 2 0, .p 3 0] no rate ts fl a b c d n1 n2 n3 n4 n5 n6 n7 n8 sk sf stake d0 d1 d2 d3 no2 rate2 ts2 fl2 al ah [(no, rate, ts, ()), (no2, rate2, ts2, ())] e m 2) else none := by kernel_rfl
theorem r8x_2_2 (no : Int) (rate : Int) (ts : List Test) (fl : Bool) (a : Int) (b : Int) (c : Int) (d : Int) (n1 : Int) (n2 : Int) (n3 : Int) (n4 : Int) (n5 : Int) (n6 : Int) (n7 : Int) (n8 : Int) (sk : List Stk) (sf : Bool) (stake : Int) (d0 : Int) (d1 : Int) (d2 : Int) (d3 : Int) (no2 : Int) (rate2 : Int) (ts2 : List Test) (fl2 : Bool) (al : Int) (ah : Int) (e : Int) (m : Int) : evRound P M2 8 13 (S8x 41 [.p 2 0, .p 3 0] no rate ts fl a b c d n1 n2 n3 n4 n5 n6 n7 n8 sk sf stake d0 d1 d2 d3 no2 rate2 ts2 fl2 al ah [(no, rate, ts, ()), (no2, rate2, ts2, ())] e m 2) = some (.exit 2, S8x 41 [.p 2 0, .p 3 0] no rate ts fl a b c d n1 n2 n3 n4 n5 n6 n7 n8 sk sf stake d0 d1 d2 d3 no2 rate2 ts2 fl2 al ah [(no, rate, ts, ()), (no2, rate2, ts2, ())] e m 2) := by kernel_rfl
theorem lrun8x_2 (h : HooksOK P X noHooks) (no : Int) (rate : Int) (ts : List Test) (fl : Bool) (a : Int) (b : Int) (c : Int) (d : Int) (n1 : Int) (n2 : Int) (n3 : Int) (n4 : Int) (n5 : Int) (n6 : Int) (n7 : Int) (n8 : Int) (sk : List Stk) (sf : Bool) (stake : Int) (d0 : Int) (d1 : Int) (d2 : Int) (d3 : Int) (no2 : Int) (rate2 : Int) (ts2 : List Test) (fl2 : Bool) (al : Int) (ah : Int) (e : Int) (m : Int) (hg : (good2 2 ⟨⟨n1, n2, n3, n4, n5, n6, n7, n8, sk⟩, stake, d0, d1⟩ e al ah no rate ts d2 d3 && good2 2 ⟨⟨n1, n2, n3, n4, n5, n6, n7, n8, sk⟩, stake, d0, d1⟩ e al ah no2 rate2 ts2 d2 d3) = true) : LoopV P X 8 13 (S8x 41 [.p 2 0, .p 3 0] no rate ts fl a b c d n1 n2 n3 n4 n5 n6 n7 n8 sk sf stake d0 d1 d2 d3 no2 rate2 ts2 fl2 al ah [(no, rate, ts, ()), (no2, rate2, ts2, ())] e m 0) (.exit 2) (S8x 41 [.p 2 0, .p 3 0] no rate ts fl a b c d n1 n2 n3 n4 n5 n6 n7 n8 sk sf stake d0 d1 d2 d3 no2 rate2 ts2 fl2 al ah [(no, rate, ts, ()), (no2, rate2, ts2, ())] e m 2) := by
  rw [Bool.and_eq_true] at hg
  exact LoopV.step (M2_ok h) ((r8x_2_0 ..).trans (cond_pos (by rw [hg.1, sameSt_s.2 rfl]; rfl) _ _)) (LoopV.step (M2_ok h) ((r8x_2_1 ..).trans (cond_pos (by rw [hg.2, sameSt_s.2 rfl]; rfl) _ _)) (LoopV.last (M2_ok h) (r8x_2_2 ..) (by simp)))
theorem r8x_3_0 (no : Int) (rate : Int) (ts : List Test) (fl : Bool) (a : Int) (b : Int) (c : Int) (d : Int) (n1 : Int) (n2 : Int) (n3 : Int) (n4 : Int) (n5 : Int) (n6 : Int) (n7 : Int) (n8 : Int) (sk : List Stk) (sf : Bool) (stake : Int) (d0 : Int) (d1 : Int) (d2 : Int) (d3 : Int) (no2 : Int) (rate2 : Int) (ts2 : List Test) (fl2 : Bool) (al : Int) (ah : Int) (e : Int) (m : Int) : evRound P M2 8 13 (S8x 42 [.p 2 0, .p 3 0] no rate ts fl a b c d n1 n2 n3 n4 n5 n6 n7 n8 sk sf stake d0 d1 d2 d3 no2 rate2 ts2 fl2 al ah [(no, rate, ts, ()), (no2, rate2, ts2, ())] e m 0) =
    bif sameSt (S8c 42 [.p 2 0, .p 3 0] no rate ts fl a b c d n1 n2 n3 n4 n5 n6 n7 n8 sk sf stake d0 d1 d2 d3 no2 rate2 ts2 fl2 al ah [(no, rate, ts, ()), (no2, rate2, ts2, ())] no rate ts false e m 0 0) (S8c 42 [.p 2 0, .p 3 0] no rate ts fl a b c d n1 n2 n3 n4 n5 n6 n7 n8 sk sf stake d0 d1 d2 d3 no2 rate2 ts2 fl2 al ah [(no, rate, ts, ()), (no2, rate2, ts2, ())] no rate ts false e m 0 0) && good2 3 ⟨⟨n1, n2, n3, n4, n5, n6, n7, n8, sk⟩, stake, d0, d1⟩ e al ah no rate ts d2 d3 then some (.n, S8x 42 [.p 2 0, .p 3 0] no rate ts fl a b c d n1 n2 n3 n4 n5 n6 n7 n8 sk sf stake d0 d1 d2 d3 no2 rate2 ts2 fl2 al ah [(no, rate, ts, ()), (no2, rate2, ts2, ())] e m 1) else none := by kernel_rfl
theorem r8x_3_1 (no : Int) (rate : Int) (ts : List Test) (fl : Bool) (a : Int) (b : Int) (c : Int) (d : Int) (n1 : Int) (n2 : Int) (n3 : Int) (n4 : Int) (n5 : Int) (n6 : Int) (n7 : Int) (n8 : Int) (sk : List Stk) (sf : Bool) (stake : Int) (d0 : Int) (d1 : Int) (d2 : Int) (d3 : Int) (no2 : Int) (rate2 : Int) (ts2 : List Test) (fl2 : Bool) (al : Int) (ah : Int) (e : Int) (m : Int) : evRound P M2 8 13 (S8x 42 [.p 2 0, .p 3 0] no rate ts fl a b c d n1 n2 n3 n4 n5 n6 n7 n8 sk sf stake d0 d1 d2 d3 no2 rate2 ts2 fl2 al ah [(no, rate, ts, ()), (no2, rate2, ts2, ())] e m 1) =
    bif sameSt (S8c 42 [.p 2 0, .p 3 0] no rate ts fl a b c d n1 n2 n3 n4 n5 n6 n7 n8 sk sf stake d0 d1 d2 d3 no2 rate2 ts2 fl2 al ah [(no, rate, ts, ()), (no2, rate2, ts2, ())] no2 rate2 ts2 false e m 1 0) (S8c 42 [.p 2 0, .p 3 0] no rate ts fl a b c d n1 n2 n3 n4 n5 n6 n7 n8 sk sf stake d0 d1 d2 d3 no2 rate2 ts2 fl2 al ah [(no, rate, ts, ()), (no2, rate2, ts2, ())] no2 rate2 ts2 false e m 1 0) && good2 3 ⟨⟨n1, n2, n3, n4, n5, n6, n7, n8, sk⟩, stake, d0, d1⟩ e al ah no2 rate2 ts2 d2 d3 then some (.n, S8x 42 [.p 2 0, .p 3 0] no rate ts fl a b c d n1 n2 n3 n4 n5 n6 n7 n8 sk sf stake d0 d1 d2 d3 no2 rate2 ts2 fl2 al ah [(no, rate, ts, ()), (no2, rate2, ts2, ())] e m 2) else none := by kernel_rfl
theorem r8x_3_2 (no : Int) (rate : Int) (ts : List Test) (fl : Bool) (a : Int) (b : Int) (c : Int) (d : Int) (n1 : Int) (n2 : Int) (n3 : Int) (n4 : Int) (n5 : Int) (n6 : Int) (n7 : Int) (n8 : Int) (sk : List Stk) (sf : Bool) (stake : Int) (d0 : Int) (d1 : Int) (d2 : Int) (d3 : Int) (no2 : Int) (rate2 : Int) (ts2 : List Test) (fl2 : Bool) (al : Int) (ah : Int) (e : Int) (m : Int) : evRound P M2 8 13 (S8x 42 [.p 2 0, .p 3 0] no rate ts fl a b c d n1 n2 n3 n4 n5 n6 n7 n8 sk sf stake d0 d1 d2 d3 no2 rate2 ts2 fl2 al ah [(no, rate, ts, ()), (no2, rate2, ts2, ())] e m 2) = some (.exit 2, S8x 42 [.p 2 0, .p 3 0] no rate ts fl a b c d n1 n2 n3 n4 n5 n6 n7 n8 sk sf stake d0 d1 d2 d3 no2 rate2 ts2 fl2 al ah [(no, rate, ts, ()), (no2, rate2, ts2, ())] e m 2) := by kernel_rfl
theorem lrun8x_3 (h : HooksOK P X noHooks) (no : Int) (rate : Int) (ts : List Test) (fl : Bool) (a : Int) (b : Int) (c : Int) (d : Int) (n1 : Int) (n2 : Int) (n3 : Int) (n4 : Int) (n5 : Int) (n6 : Int) (n7 : Int) (n8 : Int) (sk : List Stk) (sf : Bool) (stake : Int) (d0 : Int) (d1 : Int) (d2 : Int) (d3 : Int) (no2 : Int) (rate2 : Int) (ts2 : List Test) (fl2 : Bool) (al : Int) (ah : Int) (e : Int) (m : Int) (hg : (good2 3 ⟨⟨n1, n2, n3, n4, n5, n6, n7, n8, sk⟩, stake, d0, d1⟩ e al ah no rate ts d2 d3 && good2 3 ⟨⟨n1, n2, n3, n4, n5, n6, n7, n8, sk⟩, stake, d0, d1⟩ e al ah no2 rate2 ts2 d2 d3) = true) : LoopV P X 8 13 (S8x 42 [.p 2 0, .p 3 0] no rate ts fl a b c d n1 n2 n3 n4 n5 n6 n7 n8 sk sf stake d0 d1 d2 d3 no2 rate2 ts2 fl2 al ah [(no, rate, ts, ()), (no2, rate2, ts2, ())] e m 0) (.exit 2) (S8x 42 [.p 2 0, .p 3 0] no rate ts fl a b c d n1 n2 n3 n4 n5 n6 n7 n8 sk sf stake d0 d1 d2 d3 no2 rate2 ts2 fl2 al ah [(no, rate, ts, ()), (no2, rate2, ts2, ())] e m 2) := by
  rw [Bool.and_eq_true] at hg
  exact LoopV.step (M2_ok h) ((r8x_3_0 ..).trans (cond_pos (by rw [hg.1, sameSt_s.2 rfl]; rfl) _ _)) (LoopV.step (M2_ok h) ((r8x_3_1 ..).trans (cond_pos (by rw [hg.2, sameSt_s.2 rfl]; rfl) _ _)) (LoopV.last (M2_ok h) (r8x_3_2 ..) (by simp)))
theorem r8x_4_0 (no : Int) (rate : Int) (ts : List Test) (fl : Bool) (a : Int) (b : Int) (c : Int) (d : Int) (n1 : Int) (n2 : Int) (n3 : Int) (n4 : Int) (n5 : Int) (n6 : Int) (n7 : Int) (n8 : Int) (sk : List Stk) (sf : Bool) (stake : Int) (d0 : Int) (d1 : Int) (d2 : Int) (d3 : Int) (no2 : Int) (rate2 : Int) (ts2 : List Test) (fl2 : Bool) (al : Int) (ah : Int) (e : Int) (m : Int) : evRound P M2 8 13 (S8x 43 [.p 2 0, .p 3 0] no rate ts fl a b c d n1 n2 n3 n4 n5 n6 n7 n8 sk sf stake d0 d1 d2 d3 no2 rate2 ts2 fl2 al ah [(no, rate, ts, ()), (no2, rate2, ts2, ())] e m 0) =
    bif sameSt (S8c 43 [.p 2 0, .p 3 0] no rate ts fl a b c d n1 n2 n3 n4 n5 n6 n7 n8 sk sf stake d0 d1 d2 d3 no2 rate2 ts2 fl2 al ah [(no, rate, ts, ()), (no2, rate2, ts2, ())] no rate ts false e m 0 0) (S8c 43 [.p 2 0, .p 3 0] no rate ts fl a b c d n1 n2 n3 n4 n5 n6 n7 n8 sk sf stake d0 d1 d2 d3 no2 rate2 ts2 fl2 al ah [(no, rate, ts, ()), (no2, rate2, ts2, ())] no rate ts false e m 0 0) && good2 4 ⟨⟨n1, n2, n3, n4, n5, n6, n7, n8, sk⟩, stake, d0, d1⟩ e al ah no rate ts d2 d3 then some (.n, S8x 43 [.p 2 0, .p 3 0] no rate ts fl a b c d n1 n2 n3 n4 n5 n6 n7 n8 sk sf stake d0 d1 d2 d3 no2 rate2 ts2 fl2 al ah [(no, rate, ts, ()), (no2, rate2, ts2, ())] e m 1) else none := by kernel_rfl
theorem r8x_4_1 (no : Int) (rate : Int) (ts : List Test) (fl : Bool) (a : Int) (b : Int) (c : Int) (d : Int) (n1 : Int) (n2 : Int) (n3 : Int) (n4 : Int) (n5 : Int) (n6 : Int) (n7 : Int) (n8 : Int) (sk : List Stk) (sf : Bool) (stake : Int) (d0 : Int) (d1 : Int) (d2 : Int) (d3 : Int) (no2 : Int) (rate2 : Int) (ts2 : List Test) (fl2 : Bool) (al : Int) (ah : Int) (e : Int) (m : Int) : evRound P M2 8 13 (S8x 43 [.p 2 0, .p 3 0] no rate ts fl a b c d n1 n2 n3 n4 n5 n6 n7 n8 sk sf stake d0 d1 d2 d3 no2 rate2 ts2 fl2 al ah [(no, rate, ts, ()), (no2, rate2, ts2, ())] e m 1) =
    bif sameSt (S8c 43 [.p 2 0, .p 3 0] no rate ts fl a b c d n1 n2 n3 n4 n5 n6 n7 n8 sk sf stake d0 d1 d2 d3 no2 rate2 ts2 fl2 al ah [(no, rate, ts, ()), (no2, rate2, ts2, ())] no2 rate2 ts2 false e m 1 0) (S8c 43 [.p 2 0, .p 3 0] no rate ts fl a b c d n1 n2 n3 n4 n5 n6 n7 n8 sk sf stake d0 d1 d2 d3 no2 rate2 ts2 fl2 al ah [(no, rate, ts, ()), (no2, rate2, ts2, ())] no2 rate2 ts2 false e m 1 0) && good2 4 ⟨⟨n1, n2, n3, n4, n5, n6, n7, n8, sk⟩, stake, d0, d1⟩ e al ah no2 rate2 ts2 d2 d3 then some (.n, S8x 43 [.p 2 0, .p 3 0] no rate ts fl a b c d n1 n2 n3 n4 n5 n6 n7 n8 sk sf stake d0 d1 d2 d3 no2 rate2 ts2 fl2 al ah [(no, rate, ts, ()), (no2, rate2, ts2, ())] e m 2) else none := by kernel_rfl
theorem r8x_4_2 (no : Int) (rate : Int) (ts : List Test) (fl : Bool) (a : Int) (b : Int) (c : Int) (d : Int) (n1 : Int) (n2 : Int) (n3 : Int) (n4 : Int) (n5 : Int) (n6 : Int) (n7 : Int) (n8 : Int) (sk : List Stk) (sf : Bool) (stake : Int) (d0 : Int) (d1 : Int) (d2 : Int) (d3 : Int) (no2 : Int) (rate2 : Int) (ts2 : List Test) (fl2 : Bool) (al : Int) (ah : Int) (e : Int) (m : Int) : evRound P M2 8 13 (S8x 43 [.p 2 0, .p 3 0] no rate ts fl a b c d n1 n2 n3 n4 n5 n6 n7 n8 sk sf stake d0 d1 d2 d3 no2 rate2 ts2 fl2 al ah [(no, rate, ts, ()), (no2, rate2, ts2, ())] e m 2) = some (.exit 2, S8x 43 [.p 2 0, .p 3 0] no rate ts fl a b c d n1 n2 n3 n4 n5 n6 n7 n8 sk sf stake d0 d1 d2 d3 no2 rate2 ts2 fl2 al ah [(no, rate, ts, ()), (no2, rate2, ts2, ())] e m 2) := by kernel_rfl
theorem lrun8x_4 (h : HooksOK P X noHooks) (no : Int) (rate : Int) (ts : List Test) (fl : Bool) (a : Int) (b : Int) (c : Int) (d : Int) (n1 : Int) (n2 : Int) (n3 : Int) (n4 : Int) (n5 : Int) (n6 : Int) (n7 : Int) (n8 : Int) (sk : List Stk) (sf : Bool) (stake : Int) (d0 : Int) (d1 : Int) (d2 : Int) (d3 : Int) (no2 : Int) (rate2 : Int) (ts2 : List Test) (fl2 : Bool) (al : Int) (ah : Int) (e : Int) (m : Int) (hg : (good2 4 ⟨⟨n1, n2, n3, n4, n5, n6, n7, n8, sk⟩, stake, d0, d1⟩ e al ah no rate ts d2 d3 && good2 4 ⟨⟨n1, n2, n3, n4, n5, n6, n7, n8, sk⟩, stake, d0, d1⟩ e al ah no2 rate2 ts2 d2 d3) = true) : LoopV P X 8 13 (S8x 43 [.p 2 0, .p 3 0] no rate ts fl a b c d n1 n2 n3 n4 n5 n6 n7 n8 sk sf stake d0 d1 d2 d3 no2 rate2 ts2 fl2 al ah [(no, rate, ts, ()), (no2, rate2, ts2, ())] e m 0) (.exit 2) (S8x 43 [.p 2 0, .p 3 0] no rate ts fl a b c d n1 n2 n3 n4 n5 n6 n7 n8 sk sf stake d0 d1 d2 d3 no2 rate2 ts2 fl2 al ah [(no, rate, ts, ()), (no2, rate2, ts2, ())] e m 2) := by
  rw [Bool.and_eq_true] at hg
  exact LoopV.step (M2_ok h) ((r8x_4_0 ..).trans (cond_pos (by rw [hg.1, sameSt_s.2 rfl]; rfl) _ _)) (LoopV.step (M2_ok h) ((r8x_4_1 ..).trans (cond_pos (by rw [hg.2, sameSt_s.2 rfl]; rfl) _ _)) (LoopV.last (M2_ok h) (r8x_4_2 ..) (by simp)))
theorem r8x_5_0 (no : Int) (rate : Int) (ts : List Test) (fl : Bool) (a : Int) (b : Int) (c : Int) (d : Int) (n1 : Int) (n2 : Int) (n3 : Int) (n4 : Int) (n5 : Int) (n6 : Int) (n7 : Int) (n8 : Int) (sk : List Stk) (sf : Bool) (stake : Int) (d0 : Int) (d1 : Int) (d2 : Int) (d3 : Int) (no2 : Int) (rate2 : Int) (ts2 : List Test) (fl2 : Bool) (al : Int) (ah : Int) (e : Int) (m : Int) : evRound P M2 8 13 (S8x 45 [.p 2 0] no rate ts fl a b c d n1 n2 n3 n4 n5 n6 n7 n8 sk sf stake d0 d1 d2 d3 no2 rate2 ts2 fl2 al ah [(no, rate, ts, ()), (no2, rate2, ts2, ())] e m 0) =
    bif sameSt (S8c 45 [.p 2 0] no rate ts fl a b c d n1 n2 n3 n4 n5 n6 n7 n8 sk sf stake d0 d1 d2 d3 no2 rate2 ts2 fl2 al ah [(no, rate, ts, ()), (no2, rate2, ts2, ())] no rate ts false e m 0 0) (S8c 45 [.p 2 0] no rate ts fl a b c d n1 n2 n3 n4 n5 n6 n7 n8 sk sf stake d0 d1 d2 d3 no2 rate2 ts2 fl2 al ah [(no, rate, ts, ()), (no2, rate2, ts2, ())] no rate ts false e m 0 0) && good2 5 ⟨⟨n1, n2, n3, n4, n5, n6, n7, n8, sk⟩, stake, d0, d1⟩ e al ah no rate ts d2 d3 then some (.n, S8x 45 [.p 2 0] no rate ts fl a b c d n1 n2 n3 n4 n5 n6 n7 n8 sk sf stake d0 d1 d2 d3 no2 rate2 ts2 fl2 al ah [(no, rate, ts, ()), (no2, rate2, ts2, ())] e m 1) else none := by kernel_rfl
theorem r8x_5_1 (no : Int) (rate : Int) (ts : List Test) (fl : Bool) (a : Int) (b : Int) (c : Int) (d : Int) (n1 : Int) (n2 : Int) (n3 : Int) (n4 : Int) (n5 : Int) (n6 : Int) (n7 : Int) (n8 : Int) (sk : List Stk) (sf : Bool) (stake : Int) (d0 : Int) (d1 : Int) (d2 : Int) (d3 : Int) (no2 : Int) (rate2 : Int) (ts2 : List Test) (fl2 : Bool) (al : Int) (ah : Int) (e : Int) (m : Int) : evRound P M2 8 13 (S8x 45 [.p 2 0] no rate ts fl a b c d n1 n2 n3 n4 n5 n6 n7 n8 sk sf stake d0 d1 d2 d3 no2 rate2 ts2 fl2 al ah [(no, rate, ts, ()), (no2, rate2, ts2, ())] e m 1) =
    bif sameSt (S8c 45 [.p 2 0] no rate ts fl a b c d n1 n2 n3 n4 n5 n6 n7 n8 sk sf stake d0 d1 d2 d3 no2 rate2 ts2 fl2 al ah [(no, rate, ts, ()), (no2, rate2, ts2, ())] no2 rate2 ts2 false e m 1 0) (S8c 45 [.p 2 0] no rate ts fl a b c d n1 n2 n3 n4 n5 n6 n7 n8 sk sf stake d0 d1 d2 d3 no2 rate2 ts2 fl2 al ah [(no, rate, ts, ()), (no2, rate2, ts2, ())] no2 rate2 ts2 false e m 1 0) && good2 5 ⟨⟨n1, n2, n3, n4, n5, n6, n7, n8, sk⟩, stake, d0, d1⟩ e al ah no2 rate2 ts2 d2 d3 then some (.n, S8x 45 [.p 2 0] no rate ts fl a b c d n1 n2 n3 n4 n5 n6 n7 n8 sk sf stake d0 d1 d2 d3 no2 rate2 ts2 fl2 al ah [(no, rate, ts, ()), (no2, rate2, ts2, ())] e m 2) else none := by kernel_rfl
theorem r8x_5_2 (no : Int) (rate : Int) (ts : List Test) (fl : Bool) (a : Int) (b : Int) (c : Int) (d : Int) (n1 : Int) (n2 : Int) (n3 : Int) (n4 : Int) (n5 : Int) (n6 : Int) (n7 : Int) (n8 : Int) (sk : List Stk) (sf : Bool) (stake : Int) (d0 : Int) (d1 : Int) (d2 : Int) (d3 : Int) (no2 : Int) (rate2 : Int) (ts2 : List Test) (fl2 : Bool) (al : Int) (ah : Int) (e : Int) (m : Int) : evRound P M2 8 13 (S8x 45 [.p 2 0] no rate ts fl a b c d n1 n2 n3 n4 n5 n6 n7 n8 sk sf stake d0 d1 d2 d3 no2 rate2 ts2 fl2 al ah [(no, rate, ts, ()), (no2, rate2, ts2, ())] e m 2) = some (.exit 2, S8x 45 [.p 2 0] no rate ts fl a b c d n1 n2 n3 n4 n5 n6 n7 n8 sk sf stake d0 d1 d2 d3 no2 rate2 ts2 fl2 al ah [(no, rate, ts, ()), (no2, rate2, ts2, ())] e m 2) := by kernel_rfl
theorem lrun8x_5 (h : HooksOK P X noHooks) (no : Int) (rate : Int) (ts : List Test) (fl : Bool) (a : Int) (b : Int) (c : Int) (d : Int) (n1 : Int) (n2 : Int) (n3 : Int) (n4 : Int) (n5 : Int) (n6 : Int) (n7 : Int) (n8 : Int) (sk : List Stk) (sf : Bool) (stake : Int) (d0 : Int) (d1 : Int) (d2 : Int) (d3 : Int) (no2 : Int) (rate2 : Int) (ts2 : List Test) (fl2 : Bool) (al : Int) (ah : Int) (e : Int) (m : Int) (hg : (good2 5 ⟨⟨n1, n2, n3, n4, n5, n6, n7, n8, sk⟩, stake, d0, d1⟩ e al ah no rate ts d2 d3 && good2 5 ⟨⟨n1, n2, n3, n4, n5, n6, n7, n8, sk⟩, stake, d0, d1⟩ e al ah no2 rate2 ts2 d2 d3) = true) : LoopV P X 8 13 (S8x 45 [.p 2 0] no rate ts fl a b c d n1 n2 n3 n4 n5 n6 n7 n8 sk sf stake d0 d1 d2 d3 no2 rate2 ts2 fl2 al ah [(no, rate, ts, ()), (no2, rate2, ts2, ())] e m 0) (.exit 2) (S8x 45 [.p 2 0] no rate ts fl a b c d n1 n2 n3 n4 n5 n6 n7 n8 sk sf stake d0 d1 d2 d3 no2 rate2 ts2 fl2 al ah [(no, rate, ts, ()), (no2, rate2, ts2, ())] e m 2) := by
  rw [Bool.and_eq_true] at hg
  exact LoopV.step (M2_ok h) ((r8x_5_0 ..).trans (cond_pos (by rw [hg.1, sameSt_s.2 rfl]; rfl) _ _)) (LoopV.step (M2_ok h) ((r8x_5_1 ..).trans (cond_pos (by rw [hg.2, sameSt_s.2 rfl]; rfl) _ _)) (LoopV.last (M2_ok h) (r8x_5_2 ..) (by simp)))
noncomputable def COND8x (g : FuncId) (caps : List V) (no : Int) (rate : Int) (ts : List Test) (fl : Bool) (a : Int) (b : Int) (c : Int) (d : Int) (n1 : Int) (n2 : Int) (n3 : Int) (n4 : Int) (n5 : Int) (n6 : Int) (n7 : Int) (n8 : Int) (sk : List Stk) (sf : Bool) (stake : Int) (d0 : Int) (d1 : Int) (d2 : Int) (d3 : Int) (no2 : Int) (rate2 : Int) (ts2 : List Test) (fl2 : Bool) (al : Int) (ah : Int) (e : Int) (m : Int) : Bool := match vOf g caps with | some v => good2 v ⟨⟨n1, n2, n3, n4, n5, n6, n7, n8, sk⟩, stake, d0, d1⟩ e al ah no rate ts d2 d3 && good2 v ⟨⟨n1, n2, n3, n4, n5, n6, n7, n8, sk⟩, stake, d0, d1⟩ e al ah no2 rate2 ts2 d2 d3 | none => false
noncomputable def l8x : St → Option (Tr (Ex × St)) := hookS (fun st => S8x (vG (eget st.env 14)) (vC (eget st.env 14)) (vI (hC st.hp 0 0)) (vI (hC st.hp 0 1)) (vL [.i .i64, .i .i64, .i .i64, .i .i64] (hC st.hp 0 2)) (vF (hC st.hp 0 2)) (vI (hC st.hp 1 0)) (vI (hC st.hp 1 1)) (vI (hC st.hp 1 2)) (vI (hC st.hp 1 3)) (vI (hC st.hp 2 0)) (vI (hC st.hp 2 1)) (vI (hC st.hp 2 2)) (vI (hC st.hp 2 3)) (vI (hC st.hp 2 4)) (vI (hC st.hp 2 5)) (vI (hC st.hp 2 6)) (vI (hC st.hp 2 7)) (vL [.i .i64, .i .i64, .i .i64, .i .i64, .i .i64] (hC st.hp 2 8)) (vF (hC st.hp 2 8)) (vI (hC st.hp 3 0)) (vI (hC st.hp 4 0)) (vI (hC st.hp 4 1)) (vI (hC st.hp 4 2)) (vI (hC st.hp 4 3)) (vI (hC st.hp 5 0)) (vI (hC st.hp 5 1)) (vL [.i .i64, .i .i64, .i .i64, .i .i64] (hC st.hp 5 2)) (vF (hC st.hp 5 2)) (vI (hC st.hp 7 0)) (vI (hC st.hp 7 1)) [((vI (hC st.hp 0 0)), (vI (hC st.hp 0 1)), (vL [.i .i64, .i .i64, .i .i64, .i .i64] (hC st.hp 0 2)), ()), ((vI (hC st.hp 5 0)), (vI (hC st.hp 5 1)), (vL [.i .i64, .i .i64, .i .i64, .i .i64] (hC st.hp 5 2)), ())] (vI (eget st.env 16)) (vI (eget st.env 59)) 0) (fun st => S8x (vG (eget st.env 14)) (vC (eget st.env 14)) (vI (hC st.hp 0 0)) (vI (hC st.hp 0 1)) (vL [.i .i64, .i .i64, .i .i64, .i .i64] (hC st.hp 0 2)) (vF (hC st.hp 0 2)) (vI (hC st.hp 1 0)) (vI (hC st.hp 1 1)) (vI (hC st.hp 1 2)) (vI (hC st.hp 1 3)) (vI (hC st.hp 2 0)) (vI (hC st.hp 2 1)) (vI (hC st.hp 2 2)) (vI (hC st.hp 2 3)) (vI (hC st.hp 2 4)) (vI (hC st.hp 2 5)) (vI (hC st.hp 2 6)) (vI (hC st.hp 2 7)) (vL [.i .i64, .i .i64, .i .i64, .i .i64, .i .i64] (hC st.hp 2 8)) (vF (hC st.hp 2 8)) (vI (hC st.hp 3 0)) (vI (hC st.hp 4 0)) (vI (hC st.hp 4 1)) (vI (hC st.hp 4 2)) (vI (hC st.hp 4 3)) (vI (hC st.hp 5 0)) (vI (hC st.hp 5 1)) (vL [.i .i64, .i .i64, .i .i64, .i .i64] (hC st.hp 5 2)) (vF (hC st.hp 5 2)) (vI (hC st.hp 7 0)) (vI (hC st.hp 7 1)) [((vI (hC st.hp 0 0)), (vI (hC st.hp 0 1)), (vL [.i .i64, .i .i64, .i .i64, .i .i64] (hC st.hp 0 2)), ()), ((vI (hC st.hp 5 0)), (vI (hC st.hp 5 1)), (vL [.i .i64, .i .i64, .i .i64, .i .i64] (hC st.hp 5 2)), ())] (vI (eget st.env 16)) (vI (eget st.env 59)) 2) (fun st => COND8x (vG (eget st.env 14)) (vC (eget st.env 14)) (vI (hC st.hp 0 0)) (vI (hC st.hp 0 1)) (vL [.i .i64, .i .i64, .i .i64, .i .i64] (hC st.hp 0 2)) (vF (hC st.hp 0 2)) (vI (hC st.hp 1 0)) (vI (hC st.hp 1 1)) (vI (hC st.hp 1 2)) (vI (hC st.hp 1 3)) (vI (hC st.hp 2 0)) (vI (hC st.hp 2 1)) (vI (hC st.hp 2 2)) (vI (hC st.hp 2 3)) (vI (hC st.hp 2 4)) (vI (hC st.hp 2 5)) (vI (hC st.hp 2 6)) (vI (hC st.hp 2 7)) (vL [.i .i64, .i .i64, .i .i64, .i .i64, .i .i64] (hC st.hp 2 8)) (vF (hC st.hp 2 8)) (vI (hC st.hp 3 0)) (vI (hC st.hp 4 0)) (vI (hC st.hp 4 1)) (vI (hC st.hp 4 2)) (vI (hC st.hp 4 3)) (vI (hC st.hp 5 0)) (vI (hC st.hp 5 1)) (vL [.i .i64, .i .i64, .i .i64, .i .i64] (hC st.hp 5 2)) (vF (hC st.hp 5 2)) (vI (hC st.hp 7 0)) (vI (hC st.hp 7 1)) (vI (eget st.env 16)) (vI (eget st.env 59))) (.exit 2)
theorem lkey8x (h : HooksOK P X noHooks) {st : St} {g : FuncId} {caps : List V} {no : Int} {rate : Int} {ts : List Test} {fl : Bool} {a : Int} {b : Int} {c : Int} {d : Int} {n1 : Int} {n2 : Int} {n3 : Int} {n4 : Int} {n5 : Int} {n6 : Int} {n7 : Int} {n8 : Int} {sk : List Stk} {sf : Bool} {stake : Int} {d0 : Int} {d1 : Int} {d2 : Int} {d3 : Int} {no2 : Int} {rate2 : Int} {ts2 : List Test} {fl2 : Bool} {al : Int} {ah : Int} {e : Int} {m : Int} (hs : st = S8x g caps no rate ts fl a b c d n1 n2 n3 n4 n5 n6 n7 n8 sk sf stake d0 d1 d2 d3 no2 rate2 ts2 fl2 al ah [(no, rate, ts, ()), (no2, rate2, ts2, ())] e m 0) (hg : COND8x g caps no rate ts fl a b c d n1 n2 n3 n4 n5 n6 n7 n8 sk sf stake d0 d1 d2 d3 no2 rate2 ts2 fl2 al ah e m = true) : LoopV P X 8 13 st (.exit 2) (S8x g caps no rate ts fl a b c d n1 n2 n3 n4 n5 n6 n7 n8 sk sf stake d0 d1 d2 d3 no2 rate2 ts2 fl2 al ah [(no, rate, ts, ()), (no2, rate2, ts2, ())] e m 2) := by
  subst hs
  cases hv : vOf g caps with
  | none => unfold COND8x at hg; rw [hv] at hg; cases hg
  | some v =>
    unfold COND8x at hg; rw [hv] at hg
    rcases vOf_cases hv with ⟨rfl, rfl, rfl⟩ | ⟨rfl, rfl, rfl⟩ | ⟨rfl, rfl, rfl⟩ | ⟨rfl, rfl, rfl⟩ | ⟨rfl, rfl, rfl⟩ | ⟨rfl, rfl, rfl⟩
    · exact lrun8x_0 h _ _ _ _ _ _ _ _ _ _ _ _ _ _ _ _ _ _ _ _ _ _ _ _ _ _ _ _ _ _ _ hg
    · exact lrun8x_1 h _ _ _ _ _ _ _ _ _ _ _ _ _ _ _ _ _ _ _ _ _ _ _ _ _ _ _ _ _ _ _ hg
    · exact lrun8x_2 h _ _ _ _ _ _ _ _ _ _ _ _ _ _ _ _ _ _ _ _ _ _ _ _ _ _ _ _ _ _ _ hg
    · exact lrun8x_3 h _ _ _ _ _ _ _ _ _ _ _ _ _ _ _ _ _ _ _ _ _ _ _ _ _ _ _ _ _ _ _ hg
    · exact lrun8x_4 h _ _ _ _ _ _ _ _ _ _ _ _ _ _ _ _ _ _ _ _ _ _ _ _ _ _ _ _ _ _ _ hg
    · exact lrun8x_5 h _ _ _ _ _ _ _ _ _ _ _ _ _ _ _ _ _ _ _ _ _ _ _ _ _ _ _ _ _ _ _ hg
theorem lok8x (h : HooksOK P X noHooks) : ∀ st t e st', l8x st = some t → t.get = some (e, st') → LoopV P X 8 13 st e st' := lok_same fun st hs hg => lkey8x h hs hg
noncomputable def M3 : Hooks := M2.loop1 8 13 l8x
theorem M3_ok (h : HooksOK P X noHooks) : HooksOK P X M3 := (M2_ok h).loop1 (lok8x h)
def S8o (no : Int) (rate : Int) (ts : List Test) (fl : Bool) (a : Int) (b : Int) (c : Int) (d : Int) (n1 : Int) (n2 : Int) (n3 : Int) (n4 : Int) (n5 : Int) (n6 : Int) (n7 : Int) (n8 : Int) (sk : List Stk) (sf : Bool) (stake : Int) (d0 : Int) (d1 : Int) (d2 : Int) (d3 : Int) (no2 : Int) (rate2 : Int) (ts2 : List Test) (fl2 : Bool) (m : Int) : St :=
  ⟨[(5, .p 0 0), (9, .p 4 0), (10, .b false), (11, .p 5 0), (57, .sc 6 0 6 1), (58, .i .i64 6), (59, .i .i64 m)], [.c 24 [.i .i64 no, .i .i64 rate, .ls [.i .i64, .i .i64, .i .i64, .i .i64] ts fl], .c 26 [.i .i64 a, .i .i64 b, .i .i64 c, .i .i64 d], .c 47 [.i .i64 n1, .i .i64 n2, .i .i64 n3, .i .i64 n4, .i .i64 n5, .i .i64 n6, .i .i64 n7, .i .i64 n8, .ls [.i .i64, .i .i64, .i .i64, .i .i64, .i .i64] sk sf], .c 3 [.i .i64 stake], .c 61 [.i .i64 d0, .i .i64 d1, .i .i64 d2, .i .i64 d3], .c 24 [.i .i64 no2, .i .i64 rate2, .ls [.i .i64, .i .i64, .i .i64, .i .i64] ts2 fl2], .c 65 [.fn 39 [] [.p 4 0], .fn 40 [] [.p 4 0], .fn 41 [] [.p 2 0, .p 3 0], .fn 42 [] [.p 2 0, .p 3 0], .fn 43 [] [.p 2 0, .p 3 0], .fn 45 [] [.p 2 0]]], []⟩
def goodV (v : Nat) (q : Ask) (no rate : Int) (ts : List Test) (no2 rate2 : Int) (ts2 : List Test) (d2 d3 : Int) : Bool := good2 v q (mE v q no rate ts d2) (mL v q no rate ts d2) (mH v q no rate ts d2) no rate ts d2 d3 && good2 v q (mE v q no rate ts d2) (mL v q no rate ts d2) (mH v q no rate ts d2) no2 rate2 ts2 d2 d3
theorem r8o_0 (no : Int) (rate : Int) (ts : List Test) (fl : Bool) (a : Int) (b : Int) (c : Int) (d : Int) (n1 : Int) (n2 : Int) (n3 : Int) (n4 : Int) (n5 : Int) (n6 : Int) (n7 : Int) (n8 : Int) (sk : List Stk) (sf : Bool) (stake : Int) (d0 : Int) (d1 : Int) (d2 : Int) (d3 : Int) (no2 : Int) (rate2 : Int) (ts2 : List Test) (fl2 : Bool) : evRound P M3 8 9 (S8o no rate ts fl a b c d n1 n2 n3 n4 n5 n6 n7 n8 sk sf stake d0 d1 d2 d3 no2 rate2 ts2 fl2 0) =
    bif sameSt (S8x 39 [.p 4 0] no rate ts fl a b c d n1 n2 n3 n4 n5 n6 n7 n8 sk sf stake d0 d1 d2 d3 no2 rate2 ts2 fl2 (mL 0 ⟨⟨n1, n2, n3, n4, n5, n6, n7, n8, sk⟩, stake, d0, d1⟩ no rate ts d2) (mH 0 ⟨⟨n1, n2, n3, n4, n5, n6, n7, n8, sk⟩, stake, d0, d1⟩ no rate ts d2) [(no, rate, ts, ()), (no2, rate2, ts2, ())] (mE 0 ⟨⟨n1, n2, n3, n4, n5, n6, n7, n8, sk⟩, stake, d0, d1⟩ no rate ts d2) 0 0) (S8x 39 [.p 4 0] no rate ts fl a b c d n1 n2 n3 n4 n5 n6 n7 n8 sk sf stake d0 d1 d2 d3 no2 rate2 ts2 fl2 (mL 0 ⟨⟨n1, n2, n3, n4, n5, n6, n7, n8, sk⟩, stake, d0, d1⟩ no rate ts d2) (mH 0 ⟨⟨n1, n2, n3, n4, n5, n6, n7, n8, sk⟩, stake, d0, d1⟩ no rate ts d2) [(no, rate, ts, ()), (no2, rate2, ts2, ())] (mE 0 ⟨⟨n1, n2, n3, n4, n5, n6, n7, n8, sk⟩, stake, d0, d1⟩ no rate ts d2) 0 0) && goodV 0 ⟨⟨n1, n2, n3, n4, n5, n6, n7, n8, sk⟩, stake, d0, d1⟩ no rate ts no2 rate2 ts2 d2 d3 then some (.n, S8o no rate ts fl a b c d n1 n2 n3 n4 n5 n6 n7 n8 sk sf stake d0 d1 d2 d3 no2 rate2 ts2 fl2 1) else none := by kernel_rfl
theorem r8o_1 (no : Int) (rate : Int) (ts : List Test) (fl : Bool) (a : Int) (b : Int) (c : Int) (d : Int) (n1 : Int) (n2 : Int) (n3 : Int) (n4 : Int) (n5 : Int) (n6 : Int) (n7 : Int) (n8 : Int) (sk : List Stk) (sf : Bool) (stake : Int) (d0 : Int) (d1 : Int) (d2 : Int) (d3 : Int) (no2 : Int) (rate2 : Int) (ts2 : List Test) (fl2 : Bool) : evRound P M3 8 9 (S8o no rate ts fl a b c d n1 n2 n3 n4 n5 n6 n7 n8 sk sf stake d0 d1 d2 d3 no2 rate2 ts2 fl2 1) =
    bif sameSt (S8x 40 [.p 4 0] no rate ts fl a b c d n1 n2 n3 n4 n5 n6 n7 n8 sk sf stake d0 d1 d2 d3 no2 rate2 ts2 fl2 (mL 1 ⟨⟨n1, n2, n3, n4, n5, n6, n7, n8, sk⟩, stake, d0, d1⟩ no rate ts d2) (mH 1 ⟨⟨n1, n2, n3, n4, n5, n6, n7, n8, sk⟩, stake, d0, d1⟩ no rate ts d2) [(no, rate, ts, ()), (no2, rate2, ts2, ())] (mE 1 ⟨⟨n1, n2, n3, n4, n5, n6, n7, n8, sk⟩, stake, d0, d1⟩ no rate ts d2) 1 0) (S8x 40 [.p 4 0] no rate ts fl a b c d n1 n2 n3 n4 n5 n6 n7 n8 sk sf stake d0 d1 d2 d3 no2 rate2 ts2 fl2 (mL 1 ⟨⟨n1, n2, n3, n4, n5, n6, n7, n8, sk⟩, stake, d0, d1⟩ no rate ts d2) (mH 1 ⟨⟨n1, n2, n3, n4, n5, n6, n7, n8, sk⟩, stake, d0, d1⟩ no rate ts d2) [(no, rate, ts, ()), (no2, rate2, ts2, ())] (mE 1 ⟨⟨n1, n2, n3, n4, n5, n6, n7, n8, sk⟩, stake, d0, d1⟩ no rate ts d2) 1 0) && goodV 1 ⟨⟨n1, n2, n3, n4, n5, n6, n7, n8, sk⟩, stake, d0, d1⟩ no rate ts no2 rate2 ts2 d2 d3 then some (.n, S8o no rate ts fl a b c d n1 n2 n3 n4 n5 n6 n7 n8 sk sf stake d0 d1 d2 d3 no2 rate2 ts2 fl2 2) else none := by kernel_rfl
theorem r8o_2 (no : Int) (rate : Int) (ts : List Test) (fl : Bool) (a : Int) (b : Int) (c : Int) (d : Int) (n1 : Int) (n2 : Int) (n3 : Int) (n4 : Int) (n5 : Int) (n6 : Int) (n7 : Int) (n8 : Int) (sk : List Stk) (sf : Bool) (stake : Int) (d0 : Int) (d1 : Int) (d2 : Int) (d3 : Int) (no2 : Int) (rate2 : Int) (ts2 : List Test) (fl2 : Bool) : evRound P M3 8 9 (S8o no rate ts fl a b c d n1 n2 n3 n4 n5 n6 n7 n8 sk sf stake d0 d1 d2 d3 no2 rate2 ts2 fl2 2) =
    bif sameSt (S8x 41 [.p 2 0, .p 3 0] no rate ts fl a b c d n1 n2 n3 n4 n5 n6 n7 n8 sk sf stake d0 d1 d2 d3 no2 rate2 ts2 fl2 (mL 2 ⟨⟨n1, n2, n3, n4, n5, n6, n7, n8, sk⟩, stake, d0, d1⟩ no rate ts d2) (mH 2 ⟨⟨n1, n2, n3, n4, n5, n6, n7, n8, sk⟩, stake, d0, d1⟩ no rate ts d2) [(no, rate, ts, ()), (no2, rate2, ts2, ())] (mE 2 ⟨⟨n1, n2, n3, n4, n5, n6, n7, n8, sk⟩, stake, d0, d1⟩ no rate ts d2) 2 0) (S8x 41 [.p 2 0, .p 3 0] no rate ts fl a b c d n1 n2 n3 n4 n5 n6 n7 n8 sk sf stake d0 d1 d2 d3 no2 rate2 ts2 fl2 (mL 2 ⟨⟨n1, n2, n3, n4, n5, n6, n7, n8, sk⟩, stake, d0, d1⟩ no rate ts d2) (mH 2 ⟨⟨n1, n2, n3, n4, n5, n6, n7, n8, sk⟩, stake, d0, d1⟩ no rate ts d2) [(no, rate, ts, ()), (no2, rate2, ts2, ())] (mE 2 ⟨⟨n1, n2, n3, n4, n5, n6, n7, n8, sk⟩, stake, d0, d1⟩ no rate ts d2) 2 0) && goodV 2 ⟨⟨n1, n2, n3, n4, n5, n6, n7, n8, sk⟩, stake, d0, d1⟩ no rate ts no2 rate2 ts2 d2 d3 then some (.n, S8o no rate ts fl a b c d n1 n2 n3 n4 n5 n6 n7 n8 sk sf stake d0 d1 d2 d3 no2 rate2 ts2 fl2 3) else none := by kernel_rfl
theorem r8o_3 (no : Int) (rate : Int) (ts : List Test) (fl : Bool) (a : Int) (b : Int) (c : Int) (d : Int) (n1 : Int) (n2 : Int) (n3 : Int) (n4 : Int) (n5 : Int) (n6 : Int) (n7 : Int) (n8 : Int) (sk : List Stk) (sf : Bool) (stake : Int) (d0 : Int) (d1 : Int) (d2 : Int) (d3 : Int) (no2 : Int) (rate2 : Int) (ts2 : List Test) (fl2 : Bool) : evRound P M3 8 9 (S8o no rate ts fl a b c d n1 n2 n3 n4 n5 n6 n7 n8 sk sf stake d0 d1 d2 d3 no2 rate2 ts2 fl2 3) =
    bif sameSt (S8x 42 [.p 2 0, .p 3 0] no rate ts fl a b c d n1 n2 n3 n4 n5 n6 n7 n8 sk sf stake d0 d1 d2 d3 no2 rate2 ts2 fl2 (mL 3 ⟨⟨n1, n2, n3, n4, n5, n6, n7, n8, sk⟩, stake, d0, d1⟩ no rate ts d2) (mH 3 ⟨⟨n1, n2, n3, n4, n5, n6, n7, n8, sk⟩, stake, d0, d1⟩ no rate ts d2) [(no, rate, ts, ()), (no2, rate2, ts2, ())] (mE 3 ⟨⟨n1, n2, n3, n4, n5, n6, n7, n8, sk⟩, stake, d0, d1⟩ no rate ts d2) 3 0) (S8x 42 [.p 2 0, .p 3 0] no rate ts fl a b c d n1 n2 n3 n4 n5 n6 n7 n8 sk sf stake d0 d1 d2 d3 no2 rate2 ts2 fl2 (mL 3 ⟨⟨n1, n2, n3, n4, n5, n6, n7, n8, sk⟩, stake, d0, d1⟩ no rate ts d2) (mH 3 ⟨⟨n1, n2, n3, n4, n5, n6, n7, n8, sk⟩, stake, d0, d1⟩ no rate ts d2) [(no, rate, ts, ()), (no2, rate2, ts2, ())] (mE 3 ⟨⟨n1, n2, n3, n4, n5, n6, n7, n8, sk⟩, stake, d0, d1⟩ no rate ts d2) 3 0) && goodV 3 ⟨⟨n1, n2, n3, n4, n5, n6, n7, n8, sk⟩, stake, d0, d1⟩ no rate ts no2 rate2 ts2 d2 d3 then some (.n, S8o no rate ts fl a b c d n1 n2 n3 n4 n5 n6 n7 n8 sk sf stake d0 d1 d2 d3 no2 rate2 ts2 fl2 4) else none := by kernel_rfl
theorem r8o_4 (no : Int) (rate : Int) (ts : List Test) (fl : Bool) (a : Int) (b : Int) (c : Int) (d : Int) (n1 : Int) (n2 : Int) (n3 : Int) (n4 : Int) (n5 : Int) (n6 : Int) (n7 : Int) (n8 : Int) (sk : List Stk) (sf : Bool) (stake : Int) (d0 : Int) (d1 : Int) (d2 : Int) (d3 : Int) (no2 : Int) (rate2 : Int) (ts2 : List Test) (fl2 : Bool) : evRound P M3 8 9 (S8o no rate ts fl a b c d n1 n2 n3 n4 n5 n6 n7 n8 sk sf stake d0 d1 d2 d3 no2 rate2 ts2 fl2 4) =
    bif sameSt (S8x 43 [.p 2 0, .p 3 0] no rate ts fl a b c d n1 n2 n3 n4 n5 n6 n7 n8 sk sf stake d0 d1 d2 d3 no2 rate2 ts2 fl2 (mL 4 ⟨⟨n1, n2, n3, n4, n5, n6, n7, n8, sk⟩, stake, d0, d1⟩ no rate ts d2) (mH 4 ⟨⟨n1, n2, n3, n4, n5, n6, n7, n8, sk⟩, stake, d0, d1⟩ no rate ts d2) [(no, rate, ts, ()), (no2, rate2, ts2, ())] (mE 4 ⟨⟨n1, n2, n3, n4, n5, n6, n7, n8, sk⟩, stake, d0, d1⟩ no rate ts d2) 4 0) (S8x 43 [.p 2 0, .p 3 0] no rate ts fl a b c d n1 n2 n3 n4 n5 n6 n7 n8 sk sf stake d0 d1 d2 d3 no2 rate2 ts2 fl2 (mL 4 ⟨⟨n1, n2, n3, n4, n5, n6, n7, n8, sk⟩, stake, d0, d1⟩ no rate ts d2) (mH 4 ⟨⟨n1, n2, n3, n4, n5, n6, n7, n8, sk⟩, stake, d0, d1⟩ no rate ts d2) [(no, rate, ts, ()), (no2, rate2, ts2, ())] (mE 4 ⟨⟨n1, n2, n3, n4, n5, n6, n7, n8, sk⟩, stake, d0, d1⟩ no rate ts d2) 4 0) && goodV 4 ⟨⟨n1, n2, n3, n4, n5, n6, n7, n8, sk⟩, stake, d0, d1⟩ no rate ts no2 rate2 ts2 d2 d3 then some (.n, S8o no rate ts fl a b c d n1 n2 n3 n4 n5 n6 n7 n8 sk sf stake d0 d1 d2 d3 no2 rate2 ts2 fl2 5) else none := by kernel_rfl
theorem r8o_5 (no : Int) (rate : Int) (ts : List Test) (fl : Bool) (a : Int) (b : Int) (c : Int) (d : Int) (n1 : Int) (n2 : Int) (n3 : Int) (n4 : Int) (n5 : Int) (n6 : Int) (n7 : Int) (n8 : Int) (sk : List Stk) (sf : Bool) (stake : Int) (d0 : Int) (d1 : Int) (d2 : Int) (d3 : Int) (no2 : Int) (rate2 : Int) (ts2 : List Test) (fl2 : Bool) : evRound P M3 8 9 (S8o no rate ts fl a b c d n1 n2 n3 n4 n5 n6 n7 n8 sk sf stake d0 d1 d2 d3 no2 rate2 ts2 fl2 5) =
    bif sameSt (S8x 45 [.p 2 0] no rate ts fl a b c d n1 n2 n3 n4 n5 n6 n7 n8 sk sf stake d0 d1 d2 d3 no2 rate2 ts2 fl2 (mL 5 ⟨⟨n1, n2, n3, n4, n5, n6, n7, n8, sk⟩, stake, d0, d1⟩ no rate ts d2) (mH 5 ⟨⟨n1, n2, n3, n4, n5, n6, n7, n8, sk⟩, stake, d0, d1⟩ no rate ts d2) [(no, rate, ts, ()), (no2, rate2, ts2, ())] (mE 5 ⟨⟨n1, n2, n3, n4, n5, n6, n7, n8, sk⟩, stake, d0, d1⟩ no rate ts d2) 5 0) (S8x 45 [.p 2 0] no rate ts fl a b c d n1 n2 n3 n4 n5 n6 n7 n8 sk sf stake d0 d1 d2 d3 no2 rate2 ts2 fl2 (mL 5 ⟨⟨n1, n2, n3, n4, n5, n6, n7, n8, sk⟩, stake, d0, d1⟩ no rate ts d2) (mH 5 ⟨⟨n1, n2, n3, n4, n5, n6, n7, n8, sk⟩, stake, d0, d1⟩ no rate ts d2) [(no, rate, ts, ()), (no2, rate2, ts2, ())] (mE 5 ⟨⟨n1, n2, n3, n4, n5, n6, n7, n8, sk⟩, stake, d0, d1⟩ no rate ts d2) 5 0) && goodV 5 ⟨⟨n1, n2, n3, n4, n5, n6, n7, n8, sk⟩, stake, d0, d1⟩ no rate ts no2 rate2 ts2 d2 d3 then some (.n, S8o no rate ts fl a b c d n1 n2 n3 n4 n5 n6 n7 n8 sk sf stake d0 d1 d2 d3 no2 rate2 ts2 fl2 6) else none := by kernel_rfl
theorem r8o_6 (no : Int) (rate : Int) (ts : List Test) (fl : Bool) (a : Int) (b : Int) (c : Int) (d : Int) (n1 : Int) (n2 : Int) (n3 : Int) (n4 : Int) (n5 : Int) (n6 : Int) (n7 : Int) (n8 : Int) (sk : List Stk) (sf : Bool) (stake : Int) (d0 : Int) (d1 : Int) (d2 : Int) (d3 : Int) (no2 : Int) (rate2 : Int) (ts2 : List Test) (fl2 : Bool) : evRound P M3 8 9 (S8o no rate ts fl a b c d n1 n2 n3 n4 n5 n6 n7 n8 sk sf stake d0 d1 d2 d3 no2 rate2 ts2 fl2 6) = some (.exit 0, S8o no rate ts fl a b c d n1 n2 n3 n4 n5 n6 n7 n8 sk sf stake d0 d1 d2 d3 no2 rate2 ts2 fl2 6) := by kernel_rfl
theorem lrun8o (h : HooksOK P X noHooks) (no : Int) (rate : Int) (ts : List Test) (fl : Bool) (a : Int) (b : Int) (c : Int) (d : Int) (n1 : Int) (n2 : Int) (n3 : Int) (n4 : Int) (n5 : Int) (n6 : Int) (n7 : Int) (n8 : Int) (sk : List Stk) (sf : Bool) (stake : Int) (d0 : Int) (d1 : Int) (d2 : Int) (d3 : Int) (no2 : Int) (rate2 : Int) (ts2 : List Test) (fl2 : Bool) (hg0 : goodV 0 ⟨⟨n1, n2, n3, n4, n5, n6, n7, n8, sk⟩, stake, d0, d1⟩ no rate ts no2 rate2 ts2 d2 d3 = true) (hg1 : goodV 1 ⟨⟨n1, n2, n3, n4, n5, n6, n7, n8, sk⟩, stake, d0, d1⟩ no rate ts no2 rate2 ts2 d2 d3 = true) (hg2 : goodV 2 ⟨⟨n1, n2, n3, n4, n5, n6, n7, n8, sk⟩, stake, d0, d1⟩ no rate ts no2 rate2 ts2 d2 d3 = true) (hg3 : goodV 3 ⟨⟨n1, n2, n3, n4, n5, n6, n7, n8, sk⟩, stake, d0, d1⟩ no rate ts no2 rate2 ts2 d2 d3 = true) (hg4 : goodV 4 ⟨⟨n1, n2, n3, n4, n5, n6, n7, n8, sk⟩, stake, d0, d1⟩ no rate ts no2 rate2 ts2 d2 d3 = true) (hg5 : goodV 5 ⟨⟨n1, n2, n3, n4, n5, n6, n7, n8, sk⟩, stake, d0, d1⟩ no rate ts no2 rate2 ts2 d2 d3 = true) : LoopV P X 8 9 (S8o no rate ts fl a b c d n1 n2 n3 n4 n5 n6 n7 n8 sk sf stake d0 d1 d2 d3 no2 rate2 ts2 fl2 0) (.exit 0) (S8o no rate ts fl a b c d n1 n2 n3 n4 n5 n6 n7 n8 sk sf stake d0 d1 d2 d3 no2 rate2 ts2 fl2 6) :=
  LoopV.step (M3_ok h) ((r8o_0 ..).trans (cond_pos (by rw [hg0, sameSt_s.2 rfl]; rfl) _ _)) (LoopV.step (M3_ok h) ((r8o_1 ..).trans (cond_pos (by rw [hg1, sameSt_s.2 rfl]; rfl) _ _)) (LoopV.step (M3_ok h) ((r8o_2 ..).trans (cond_pos (by rw [hg2, sameSt_s.2 rfl]; rfl) _ _)) (LoopV.step (M3_ok h) ((r8o_3 ..).trans (cond_pos (by rw [hg3, sameSt_s.2 rfl]; rfl) _ _)) (LoopV.step (M3_ok h) ((r8o_4 ..).trans (cond_pos (by rw [hg4, sameSt_s.2 rfl]; rfl) _ _)) (LoopV.step (M3_ok h) ((r8o_5 ..).trans (cond_pos (by rw [hg5, sameSt_s.2 rfl]; rfl) _ _)) (LoopV.last (M3_ok h) (r8o_6 ..) (by simp)))))))
noncomputable def COND8o (no : Int) (rate : Int) (ts : List Test) (fl : Bool) (a : Int) (b : Int) (c : Int) (d : Int) (n1 : Int) (n2 : Int) (n3 : Int) (n4 : Int) (n5 : Int) (n6 : Int) (n7 : Int) (n8 : Int) (sk : List Stk) (sf : Bool) (stake : Int) (d0 : Int) (d1 : Int) (d2 : Int) (d3 : Int) (no2 : Int) (rate2 : Int) (ts2 : List Test) (fl2 : Bool) : Bool := (goodV 0 ⟨⟨n1, n2, n3, n4, n5, n6, n7, n8, sk⟩, stake, d0, d1⟩ no rate ts no2 rate2 ts2 d2 d3 && (goodV 1 ⟨⟨n1, n2, n3, n4, n5, n6, n7, n8, sk⟩, stake, d0, d1⟩ no rate ts no2 rate2 ts2 d2 d3 && (goodV 2 ⟨⟨n1, n2, n3, n4, n5, n6, n7, n8, sk⟩, stake, d0, d1⟩ no rate ts no2 rate2 ts2 d2 d3 && (goodV 3 ⟨⟨n1, n2, n3, n4, n5, n6, n7, n8, sk⟩, stake, d0, d1⟩ no rate ts no2 rate2 ts2 d2 d3 && (goodV 4 ⟨⟨n1, n2, n3, n4, n5, n6, n7, n8, sk⟩, stake, d0, d1⟩ no rate ts no2 rate2 ts2 d2 d3 && goodV 5 ⟨⟨n1, n2, n3, n4, n5, n6, n7, n8, sk⟩, stake, d0, d1⟩ no rate ts no2 rate2 ts2 d2 d3)))))
noncomputable def l8o : St → Option (Tr (Ex × St)) := hookS (fun st => S8o (vI (hC st.hp 0 0)) (vI (hC st.hp 0 1)) (vL [.i .i64, .i .i64, .i .i64, .i .i64] (hC st.hp 0 2)) (vF (hC st.hp 0 2)) (vI (hC st.hp 1 0)) (vI (hC st.hp 1 1)) (vI (hC st.hp 1 2)) (vI (hC st.hp 1 3)) (vI (hC st.hp 2 0)) (vI (hC st.hp 2 1)) (vI (hC st.hp 2 2)) (vI (hC st.hp 2 3)) (vI (hC st.hp 2 4)) (vI (hC st.hp 2 5)) (vI (hC st.hp 2 6)) (vI (hC st.hp 2 7)) (vL [.i .i64, .i .i64, .i .i64, .i .i64, .i .i64] (hC st.hp 2 8)) (vF (hC st.hp 2 8)) (vI (hC st.hp 3 0)) (vI (hC st.hp 4 0)) (vI (hC st.hp 4 1)) (vI (hC st.hp 4 2)) (vI (hC st.hp 4 3)) (vI (hC st.hp 5 0)) (vI (hC st.hp 5 1)) (vL [.i .i64, .i .i64, .i .i64, .i .i64] (hC st.hp 5 2)) (vF (hC st.hp 5 2)) 0) (fun st => S8o (vI (hC st.hp 0 0)) (vI (hC st.hp 0 1)) (vL [.i .i64, .i .i64, .i .i64, .i .i64] (hC st.hp 0 2)) (vF (hC st.hp 0 2)) (vI (hC st.hp 1 0)) (vI (hC st.hp 1 1)) (vI (hC st.hp 1 2)) (vI (hC st.hp 1 3)) (vI (hC st.hp 2 0)) (vI (hC st.hp 2 1)) (vI (hC st.hp 2 2)) (vI (hC st.hp 2 3)) (vI (hC st.hp 2 4)) (vI (hC st.hp 2 5)) (vI (hC st.hp 2 6)) (vI (hC st.hp 2 7)) (vL [.i .i64, .i .i64, .i .i64, .i .i64, .i .i64] (hC st.hp 2 8)) (vF (hC st.hp 2 8)) (vI (hC st.hp 3 0)) (vI (hC st.hp 4 0)) (vI (hC st.hp 4 1)) (vI (hC st.hp 4 2)) (vI (hC st.hp 4 3)) (vI (hC st.hp 5 0)) (vI (hC st.hp 5 1)) (vL [.i .i64, .i .i64, .i .i64, .i .i64] (hC st.hp 5 2)) (vF (hC st.hp 5 2)) 6) (fun st => COND8o (vI (hC st.hp 0 0)) (vI (hC st.hp 0 1)) (vL [.i .i64, .i .i64, .i .i64, .i .i64] (hC st.hp 0 2)) (vF (hC st.hp 0 2)) (vI (hC st.hp 1 0)) (vI (hC st.hp 1 1)) (vI (hC st.hp 1 2)) (vI (hC st.hp 1 3)) (vI (hC st.hp 2 0)) (vI (hC st.hp 2 1)) (vI (hC st.hp 2 2)) (vI (hC st.hp 2 3)) (vI (hC st.hp 2 4)) (vI (hC st.hp 2 5)) (vI (hC st.hp 2 6)) (vI (hC st.hp 2 7)) (vL [.i .i64, .i .i64, .i .i64, .i .i64, .i .i64] (hC st.hp 2 8)) (vF (hC st.hp 2 8)) (vI (hC st.hp 3 0)) (vI (hC st.hp 4 0)) (vI (hC st.hp 4 1)) (vI (hC st.hp 4 2)) (vI (hC st.hp 4 3)) (vI (hC st.hp 5 0)) (vI (hC st.hp 5 1)) (vL [.i .i64, .i .i64, .i .i64, .i .i64] (hC st.hp 5 2)) (vF (hC st.hp 5 2))) (.exit 0)
theorem lkey8o (h : HooksOK P X noHooks) {st : St} {no : Int} {rate : Int} {ts : List Test} {fl : Bool} {a : Int} {b : Int} {c : Int} {d : Int} {n1 : Int} {n2 : Int} {n3 : Int} {n4 : Int} {n5 : Int} {n6 : Int} {n7 : Int} {n8 : Int} {sk : List Stk} {sf : Bool} {stake : Int} {d0 : Int} {d1 : Int} {d2 : Int} {d3 : Int} {no2 : Int} {rate2 : Int} {ts2 : List Test} {fl2 : Bool} (hs : st = S8o no rate ts fl a b c d n1 n2 n3 n4 n5 n6 n7 n8 sk sf stake d0 d1 d2 d3 no2 rate2 ts2 fl2 0) (hg : COND8o no rate ts fl a b c d n1 n2 n3 n4 n5 n6 n7 n8 sk sf stake d0 d1 d2 d3 no2 rate2 ts2 fl2 = true) : LoopV P X 8 9 st (.exit 0) (S8o no rate ts fl a b c d n1 n2 n3 n4 n5 n6 n7 n8 sk sf stake d0 d1 d2 d3 no2 rate2 ts2 fl2 6) := by
  subst hs
  unfold COND8o at hg
  simp only [Bool.and_eq_true] at hg
  obtain ⟨g0, g1, g2, g3, g4, g5⟩ := hg
  exact lrun8o h _ _ _ _ _ _ _ _ _ _ _ _ _ _ _ _ _ _ _ _ _ _ _ _ _ _ _ g0 g1 g2 g3 g4 g5
theorem lok8o (h : HooksOK P X noHooks) : ∀ st t e st', l8o st = some t → t.get = some (e, st') → LoopV P X 8 9 st e st' := lok_same fun st hs hg => lkey8o h hs hg
noncomputable def h13m : List V → Option (Bool × V)
  | [] => some (true, .b true)
  | _ => none
noncomputable def M4 : Hooks := (M3.loop1 8 9 l8o).call1 13 h13m
end Go.Mini.Co
end
section
set_option linter.unusedVariables false
set_option linter.unusedSimpArgs false
set_option maxRecDepth 100000
namespace Go.Mini.Co
open Go Go.Mini
theorem e8 (no rate a b c d n1 n2 n3 n4 n5 n6 n7 n8 stake d0 d1 d2 d3 : Int) (ts : List Test) (fl : Bool) (sk : List Stk) (sf : Bool) : evP P M4 8 [.agg [.i .i64 no, .i .i64 rate, .ls T26 ts fl], .agg [.i .i64 a, .i .i64 b, .i .i64 c, .i .i64 d], .agg [.i .i64 n1, .i .i64 n2, .i .i64 n3, .i .i64 n4, .i .i64 n5, .i .i64 n6, .i .i64 n7, .i .i64 n8, .ls T71 sk sf], .i .i64 stake, .agg [.i .i64 d0, .i .i64 d1, .i .i64 d2, .i .i64 d3]] =
    bif decide ((ts.length : Int) > 100) then some (.b true) else
    bif decide ((sk.length : Int) > 100) then some (.b true) else
    bif decide (d3 < d2) then some (.b true) else
    bif addE no rate ts (a, b, c, d, ()) != 0 then (bif sameSt (S8o no rate ts fl a b c d n1 n2 n3 n4 n5 n6 n7 n8 sk sf stake d0 d1 d2 d3 no rate ts fl 0) (S8o no rate ts fl a b c d n1 n2 n3 n4 n5 n6 n7 n8 sk sf stake d0 d1 d2 d3 no rate ts fl 0) && COND8o no rate ts fl a b c d n1 n2 n3 n4 n5 n6 n7 n8 sk sf stake d0 d1 d2 d3 no rate ts fl then some (.b true) else none)
    else (bif sameSt (S8o no rate ts fl a b c d n1 n2 n3 n4 n5 n6 n7 n8 sk sf stake d0 d1 d2 d3 (spanIf (addE no rate ts (a, b, c, d, ())) no) (spanIf (addE no rate ts (a, b, c, d, ())) rate) (addT no rate ts (a, b, c, d, ())) false 0) (S8o no rate ts fl a b c d n1 n2 n3 n4 n5 n6 n7 n8 sk sf stake d0 d1 d2 d3 (spanIf (addE no rate ts (a, b, c, d, ())) no) (spanIf (addE no rate ts (a, b, c, d, ())) rate) (addT no rate ts (a, b, c, d, ())) false 0) && COND8o no rate ts fl a b c d n1 n2 n3 n4 n5 n6 n7 n8 sk sf stake d0 d1 d2 d3 (spanIf (addE no rate ts (a, b, c, d, ())) no) (spanIf (addE no rate ts (a, b, c, d, ())) rate) (addT no rate ts (a, b, c, d, ())) false then some (.b true) else none) := by kernel_rfl
end Go.Mini.Co
end
section
namespace Go.Proofs
open Go.Shelf
def Tryd.laysM171_ren : Go.Shelf.Ren := ⟨fun | 171 => 138 | 243 => 141 | 246 => 142 | 283 => 143 | 284 => 144 | 285 => 145 | 286 => 146 | 129 => 148 | 317 => 147 | 318 => 149 | 319 => 150 | 320 => 151 | 337 => 152 | 338 => 153 | n => n, fun | 3 => 3 | 9 => 9 | 2 => 2 | 4 => 4 | 171 => 164 | 0 => 0 | 53 => 165 | 37 => 140 | 5 => 5 | 173 => 168 | 212 => 172 | 51 => 173 | 20 => 20 | 213 => 174 | 46 => 137 | 232 => 177 | 233 => 178 | n => n, fun | 17 => 0 | 18 => 1 | 19 => 2 | n => n⟩
theorem Tryd.laysM171 : Go.Proofs.LaysM.n171 Tryd.prog Tryd.laysM171_ren := {
  mixed := by kernel_rfl
  f129 := Tryd.func148.trans (congrArg some (by kernel_rfl))
  f171 := Tryd.func138.trans (congrArg some (by kernel_rfl))
  f243 := Tryd.func141.trans (congrArg some (by kernel_rfl))
  f246 := Tryd.func142.trans (congrArg some (by kernel_rfl))
  f283 := Tryd.func143.trans (congrArg some (by kernel_rfl))
  f284 := Tryd.func144.trans (congrArg some (by kernel_rfl))
  f285 := Tryd.func145.trans (congrArg some (by kernel_rfl))
  f286 := Tryd.func146.trans (congrArg some (by kernel_rfl))
  f317 := Tryd.func147.trans (congrArg some (by kernel_rfl))
  f318 := Tryd.func149.trans (congrArg some (by kernel_rfl))
  f319 := Tryd.func150.trans (congrArg some (by kernel_rfl))
  f320 := Tryd.func151.trans (congrArg some (by kernel_rfl))
  f337 := Tryd.func152.trans (congrArg some (by kernel_rfl))
  f338 := Tryd.func153.trans (congrArg some (by kernel_rfl))
  t0 := Tryd.underlying0
  a0 := Tryd.isAgg0
  z0 := Tryd.sizeOf0
  v0 := Tryd.zeroValue0
  t2 := Tryd.underlying2
  a2 := Tryd.isAgg2
  z2 := Tryd.sizeOf2
  v2 := Tryd.zeroValue2
  t3 := Tryd.underlying3
  a3 := Tryd.isAgg3
  z3 := Tryd.sizeOf3
  v3 := Tryd.zeroValue3
  t4 := Tryd.underlying4
  a4 := Tryd.isAgg4
  z4 := Tryd.sizeOf4
  v4 := Tryd.zeroValue4
  t5 := Tryd.underlying5
  a5 := Tryd.isAgg5
  z5 := Tryd.sizeOf5
  v5 := Tryd.zeroValue5
  t9 := Tryd.underlying9
  a9 := Tryd.isAgg9
  z9 := Tryd.sizeOf9
  v9 := Tryd.zeroValue9
  t20 := Tryd.underlying20
  a20 := Tryd.isAgg20
  z20 := Tryd.sizeOf20
  v20 := Tryd.zeroValue20
  t37 := Tryd.underlying140
  a37 := Tryd.isAgg140
  z37 := Tryd.sizeOf140
  v37 := Tryd.zeroValue140
  t46 := Tryd.underlying137
  a46 := Tryd.isAgg137
  z46 := Tryd.sizeOf137
  v46 := Tryd.zeroValue137
  t51 := Tryd.underlying173
  a51 := Tryd.isAgg173
  z51 := Tryd.sizeOf173
  v51 := Tryd.zeroValue173
  t53 := Tryd.underlying165
  a53 := Tryd.isAgg165
  z53 := Tryd.sizeOf165
  v53 := Tryd.zeroValue165
  t171 := Tryd.underlying164
  a171 := Tryd.isAgg164
  z171 := Tryd.sizeOf164
  v171 := Tryd.zeroValue164
  t173 := Tryd.underlying168
  a173 := Tryd.isAgg168
  z173 := Tryd.sizeOf168
  v173 := Tryd.zeroValue168
  t212 := Tryd.underlying172
  a212 := Tryd.isAgg172
  z212 := Tryd.sizeOf172
  v212 := Tryd.zeroValue172
  t213 := Tryd.underlying174
  a213 := Tryd.isAgg174
  z213 := Tryd.sizeOf174
  t232 := Tryd.underlying177
  a232 := Tryd.isAgg177
  z232 := Tryd.sizeOf177
  v232 := Tryd.zeroValue177
  t233 := Tryd.underlying178
  a233 := Tryd.isAgg178
  z233 := Tryd.sizeOf178
  v233 := Tryd.zeroValue178
  g17 := by kernel_rfl
  g18 := by kernel_rfl
  g19 := by kernel_rfl
  i0 := by kernel_rfl
  i2 := by kernel_rfl
  i3 := by kernel_rfl
  i4 := by kernel_rfl
  i5 := by kernel_rfl
  i9 := by kernel_rfl
  i20 := by kernel_rfl
  i37 := by kernel_rfl
  i46 := by kernel_rfl
  i51 := by kernel_rfl
  i53 := by kernel_rfl
  i171 := by kernel_rfl
  i173 := by kernel_rfl
  i212 := by kernel_rfl
  i232 := by kernel_rfl
  i233 := by kernel_rfl
  m17 := by kernel_rfl
  m18 := by kernel_rfl
  m19 := by kernel_rfl }
open Go.RowKit Go.Sort Go.Lib in
/-- strconv.Itoa: "Itoa is equivalent to FormatInt(int64(i), 10).": i's DECIMAL NUMERAL ('Lib.itoa': a '-' where i is negative, then the digits), FOR EVERY int. The world behind the call: the world before it, new blocks behind the heap (the library's 'var a [24]byte'), draws. (LAID: no walk: one application.) -/
theorem Tryd.strconv_Itoa (n : Int) (h0 : -9223372036854775808 ≤ n) (h1 : n ≤ 9223372036854775807) (w : World) (htab : Lib.TabIs Tryd.prog w "internal/strconv.uint64pow10" .u64 Lib.pow10Tab) :
    Calls Tryd.prog 138 #[.int .i64 n] w fun e w' => e = .returned (.string ⟨(Lib.itoa n).toArray⟩) ∧ ∃ k os, w' = grow (w.drewN k) os := Any.strconv_Itoa Tryd.laysM171 n h0 h1 w htab
end Go.Proofs
end
section
set_option linter.unusedVariables false
set_option linter.unusedSimpArgs false
set_option maxRecDepth 100000
namespace Go.Mini.Co
open Go Go.Mini Go.RowKit
open Go.Proofs (Tryd.prog)
/-! Numerals; the chapter's examples. -/
def TabX (F : Fz) : Prop := F 0 = some ((Lib.pow10Tab.map fun z => Value.int .u64 z).toArray)
theorem TabX_mono : ∀ F F', TabX F → FLe F F' → TabX F' := fun F F' h hF => hF _ _ h
theorem base_ok : HooksOK P TabX noHooks := noHooks_ok TabX_mono (by kernel_rfl)
theorem tabG : P.globalNamed "internal/strconv.uint64pow10" = some 0 := by kernel_rfl
theorem tab_is {ρ F H W} (hX : TabX F) (hR : Rel ρ F H W) : Lib.TabIs P W "internal/strconv.uint64pow10" .u64 Lib.pow10Tab := by
  obtain ⟨e, fr, h⟩ := hR.fz 0 _ hX
  unfold Lib.TabIs World.var?
  rw [tabG]
  simp only [Option.bind_some, h]
noncomputable def h138 : List V → Option (Bool × V)
  | [.i .i64 n] => some (decide (-9223372036854775808 ≤ n) && decide (n ≤ 9223372036854775807), .s (Lib.itoa n))
  | _ => none
theorem ok138 : ∀ args v, h138 args = some (true, v) → Pure P TabX 138 args v := by
  intro args v hv
  unfold h138 at hv
  split at hv
  case h_2 => cases hv
  rename_i n
  simp only [Option.some.injEq, Prod.mk.injEq, Bool.and_eq_true, decide_eq_true_eq] at hv
  obtain ⟨⟨h0, h1⟩, rfl⟩ := hv
  refine ⟨⟨_, Go.Proofs.Tryd.func138, by kernel_rfl, by kernel_rfl⟩, fun ρ F W args' hX hR ha => ?_⟩
  obtain ⟨args'⟩ := args'
  simp only [VRels, VRel] at ha
  obtain ⟨x, r, rfl, rfl, rfl⟩ := ha
  refine (Go.Proofs.Tryd.strconv_Itoa n h0 h1 W (tab_is hX hR)).mono ?_
  rintro e W' ⟨rfl, k, os, rfl⟩
  have hb : Below W.heap.size W _ := Lib.below_grow _ W (Nat.le_refl _) k os
  obtain ⟨b1, b2, b3, b4, b5⟩ := hb
  refine ⟨_, fun _ => none, F, rfl, by simp only [VRel], ⟨fun m b hb => (by cases hb), fun m L hL => (by cases hL), fun m m' b b' j s n w s' n' w' hb => (by cases hb), fun j c hj => ?_⟩, ⟨fun m L hm => ?_, Nat.le_refl _, FLe.refl _, fun _ a b => absurd a b, fun j hj _ => b5 j hj, ?_, b4, b1, b2, b3⟩⟩
  · obtain ⟨e, fr, he⟩ := hR.fz j c hj
    exact ⟨e, fr, by rw [b5 j (Array.getElem?_eq_some_iff.1 he).1]; exact he⟩
  · have := hR.dom m L hm
    simp [hlen] at this
  · rintro j ⟨m, b, s, n, w, h, _⟩
    cases h
def closeS (f : FuncId) : Bool := Nat.ble 14 f && Nat.ble f 46 || Nat.beq f 68
noncomputable def hkS : Hooks := (noHooks.call1 138 h138).closing closeS
theorem hkS_ok : HooksOK P TabX hkS := (base_ok.call1 ok138).closing closeS
theorem sane_ev : evP P (deepen P hkS 40) 13 [] = some (.b true) := by kernel_rfl
theorem ok13 : ∀ args v, h13 args = some (true, v) → Pure P TabX 13 args v := by
  intro args v hv
  unfold h13 at hv
  split at hv
  case h_2 => cases hv
  simp only [Option.some.injEq, Prod.mk.injEq, true_and] at hv
  subst hv
  exact evP_sound (deepen_ok hkS_ok 40) sane_ev
end Go.Mini.Co
end
section
set_option linter.unusedVariables false
set_option maxRecDepth 100000
namespace Go.Proofs.YtapijkdgkajoeaaDoor
open Go.ChangeShapes Go.WideShapes Go.ChangeAt Go.RowKit
/-! What a call's arguments lie in; the table of the numerals. -/
section
variable {H : Type} {enc : TypeId × Value → H} {w : World} {v : Value} {d : DataW H} {p : List MemPlace}
theorem argLt {t : Nat} (h : DataW.Trod enc Tryd.prog w 0 (fun _ => true) true t v d p) : ∀ x ∈ p, x.block < w.heap.size := by
  obtain ⟨m, hm⟩ := h
  exact DataW.trod_lt m _ _ _ hm
end
/-- The three listed variables. -/
def laid3 : List (String × DataW Unit) := [("math/bits.deBruijn32tab", Rows.laid_math_bits_deBruijn32tab), ("math/bits.deBruijn64tab", Rows.laid_math_bits_deBruijn64tab), ("internal/strconv.uint64pow10", Rows.laid_internal_strconv_uint64pow10)]
theorem tab_of_laid {W : World} (h : laidMetH Tryd.prog laid3 W) : Mini.Co.TabX (Mini.ownF W) := by
  rw [MakeChecks.laidMetH_plain _ _ _ (by kernel_rfl)] at h
  obtain ⟨ps, ⟨_, _, _, _, _, _, _, _, _, _, ⟨_, _, _, _, _, _, _, _, _, _, ⟨g', t', cs, fuel, p, q, hg', ht', hvar, hd, _, _⟩, _⟩, _⟩, _⟩ := h
  obtain rfl := Option.some.inj (Mini.Co.tabG.symm.trans hg')
  obtain rfl := Option.some.inj ((show (Tryd.prog.globals[0]?).map (·.type) = some 172 by kernel_rfl).symm.trans ht')
  have hcs : cs = (Lib.pow10Tab.map fun z => Value.int .u64 z).toArray := by
    rw [← Lib.cells_of_tab (k := .u64) (zs := Lib.pow10Tab) Tryd.underlying172 Tryd.underlying165 (by kernel_rfl) (by kernel_rfl) hd]
  rw [hcs] at hvar
  unfold World.var? at hvar
  rw [Mini.Co.tabG] at hvar
  simp only [Option.bind_some] at hvar
  unfold Mini.Co.TabX Mini.ownF
  split at hvar
  · rename_i c e fr hc
    rw [hc]
    exact hvar
  · cases hvar
set_option maxRecDepth 100000 in
/-- The door's own heap meets the condition. -/
theorem door_met (os : Os) (args : Array Value) : laidMetH Tryd.prog laid3 ((World.doorLaid Tryd.prog 24 os).forCall (fun _ _ => 0) ⟨#[], args, []⟩).memory :=
  laidMetH_of_parts3 (fuel := 8) (laidMet_of_run' 8 (by kernel_rfl) (by kernel_rfl)) (by kernel_rfl) (by kernel_rfl)
theorem laidOut : laidOutB Tryd.prog = true := by kernel_rfl
theorem ownNo : ownKnob Tryd.prog.godebug = none := by kernel_rfl
end Go.Proofs.YtapijkdgkajoeaaDoor
end
section
set_option linter.unusedVariables false
set_option linter.unusedSimpArgs false
namespace Go.Mini.Co
open Go Go.Mini
/-! CourseMore, in plain Lean: more that is known never widens anything. -/
theorem ta_app {ts su : List Test} {i : Nat} (hi : i < ts.length) : ta (ts ++ su) i = ta ts i := by
  unfold ta
  rw [List.getD_eq_getElem?_getD, List.getD_eq_getElem?_getD, List.getElem?_append_left hi]
theorem drift_mono {rate on k k' : Int} {ts : List Test} (su : List Test) (hk : k ≤ k') : (driftS rate ts on k).1 ≤ (driftS rate (ts ++ su) on k').1 ∧ (driftS rate (ts ++ su) on k').2 ≤ (driftS rate ts on k).2 := by
  have h1 := (drift_le (rate := rate) (on := on) (known := k') (ts := ts ++ su)).1 (Int.le_refl _)
  have h2 := (le_drift (rate := rate) (on := on) (known := k') (ts := ts ++ su)).1 (Int.le_refl _)
  constructor
  · rw [drift_le]
    refine ⟨h1.1, fun i hi hki => ?_⟩
    have := h1.2 i (by rw [List.length_append]; omega) (by rw [ta_app hi]; omega)
    rwa [ta_app hi] at this
  · rw [le_drift]
    refine ⟨h2.1, fun i hi hki => ?_⟩
    have := h2.2 i (by rw [List.length_append]; omega) (by rw [ta_app hi]; omega)
    rwa [ta_app hi] at this
theorem turn_mono {rate a b k k' : Int} {ts : List Test} (su : List Test) (hk : k ≤ k') : (turnS rate ts a b k).1 ≤ (turnS rate (ts ++ su) a b k').1 ∧ (turnS rate (ts ++ su) a b k').2 ≤ (turnS rate ts a b k).2 := by
  have h1 := drift_mono (rate := rate) (on := a) (ts := ts) su hk
  have h2 := drift_mono (rate := rate) (on := b) (ts := ts) su hk
  unfold turnS
  constructor
  · show max _ _ ≤ max _ _; omega
  · show min _ _ ≤ min _ _; omega
theorem upL_rel {σ : Type} {stop : Nat → σ → Bool} {f g : Nat → σ → σ} (R : σ → σ → Prop) (hs : ∀ i s s', R s s' → R (f i s) (g i s')) : ∀ (k i : Nat) (s s' : σ), R s s' → R (upL (fun _ _ => false) f k i s).2.2 (upL (fun _ _ => false) g k i s').2.2
  | 0, _, _, _, h => h
  | k + 1, i, s, s', h => by
    simp only [upL, cond_false]
    exact upL_rel (stop := stop) R hs k (i + 1) _ _ (hs i s s' h)
theorem turnsHi_mono {h h' e : Int} {st : List Stk} (hh : h ≤ h') : turnsHi h e st ≤ turnsHi h' e st := by
  unfold turnsHi
  exact upL_rel (stop := fun _ _ => false) (fun s s' : Int => s ≤ s') (fun i s s' hs => by show min _ _ ≤ min _ _; omega) _ _ _ _ hh
theorem turns_mono {rate k k' : Int} {ts : List Test} {sh : Sh} (su : List Test) (hk : k ≤ k') : turnsLo rate ts sh k ≤ turnsLo rate (ts ++ su) sh k' ∧ turnsH rate (ts ++ su) sh k' ≤ turnsH rate ts sh k := by
  have h := turn_mono (rate := rate) (a := sh.eday) (b := sh.day) (ts := ts) su hk
  exact ⟨h.1, turnsHi_mono h.2⟩
theorem core_mono {e : Int} {k : Stk} {lo lo' hi hi' : Int} (h1 : lo ≤ lo') (h2 : hi' ≤ hi) : coreLo e k hi ≤ coreLo e k hi' ∧ coreHi e k lo' ≤ coreHi e k lo := by
  unfold coreLo coreHi
  omega
theorem snow_mono {m e : Int} {k : Stk} {lo lo' hi hi' : Int} (h1 : lo ≤ lo') (h2 : hi' ≤ hi) : snowLo m e k hi ≤ snowLo m e k hi' ∧ snowHi m e k lo' ≤ snowHi m e k lo := by
  have := core_mono (e := e) (k := k) h1 h2
  unfold snowLo snowHi
  omega
theorem sum_mono {m e : Int} {sk : List Stk} {lo lo' hi hi' : Int} (h1 : lo ≤ lo') (h2 : hi' ≤ hi) : (sumS m e sk lo hi).1 ≤ (sumS m e sk lo' hi').1 ∧ (sumS m e sk lo' hi').2 ≤ (sumS m e sk lo hi).2 := by
  unfold sumS
  refine upL_rel (stop := fun _ _ => false) (fun s s' : Int × Int => s.1 ≤ s'.1 ∧ s'.2 ≤ s.2) (fun i s s' hs => ?_) _ _ _ _ ⟨Int.le_refl _, Int.le_refl _⟩
  have := snow_mono (m := m) (e := e) (k := sa sk i) h1 h2
  show s.1 + _ ≤ s'.1 + _ ∧ s'.2 + _ ≤ s.2 + _
  omega
theorem up_mono {a a' b : Int} (hb : 1 ≤ b) (h : a ≤ a') : upS a b ≤ upS a' b := by
  unfold upS
  exact Int.tdiv_le_tdiv (by omega) (by omega)
/-- The answer of each question lies inside. -/
theorem mR_mono {v : Nat} {q : Ask} {no rate k k' : Int} {ts : List Test} (su : List Test) (hk : k ≤ k') (he : mE v q no rate ts k = 0) : (mR v q rate ts k).1 ≤ (mR v q rate (ts ++ su) k').1 ∧ (mR v q rate (ts ++ su) k').2 ≤ (mR v q rate ts k).2 := by
  have ht := turns_mono (rate := rate) (ts := ts) (sh := q.sh) su hk
  match v, he with
  | 0, _ => exact drift_mono su hk
  | 1, _ => exact turn_mono su hk
  | 2, _ => exact core_mono ht.1 ht.2
  | 3, he =>
    obtain ⟨_, h6, _, _⟩ := sheetOfE_0 (stakeOfE_0 (lookE_0 he).1).1
    obtain ⟨_, _, _, ⟨m1, _⟩, _, _⟩ := sheetB_s h6
    have hs := snow_mono (m := q.sh.mouth) (e := q.sh.empty) (k := sa q.sh.st (Int.toNat q.at_)) ht.1 ht.2
    exact ⟨Int.tdiv_le_tdiv (by omega) hs.1, up_mono m1 hs.2⟩
  | 4, he =>
    have he : densE no rate ts q.sh q.at_ k = 0 := he
    have h3 : stakeOfE no rate ts q.sh q.at_ k = 0 ∧ (sa q.sh.st (Int.toNat q.at_)).1 ≠ 0 := by
      unfold densE at he
      cases h1 : eqI (stakeOfE no rate ts q.sh q.at_ k) 0 with
      | false => rw [h1] at he; have he : stakeOfE no rate ts q.sh q.at_ k = 0 := he; rw [he] at h1; cases h1
      | true =>
        rw [h1] at he
        cases h2 : eqI (sa q.sh.st (Int.toNat q.at_)).1 0 with
        | true => rw [h2] at he; cases he
        | false => exact ⟨eqI_s.1 h1, fun h0 => by rw [eqI_s.2 h0] at h2; cases h2⟩
    obtain ⟨h4, a1, a2⟩ := stakeOfE_0 h3.1
    obtain ⟨_, h6, _, _⟩ := sheetOfE_0 h4
    obtain ⟨_, _, _, ⟨m1, _⟩, _, hst⟩ := sheetB_s h6
    obtain ⟨k1, _, _, _⟩ := stakeB_s (hst (Int.toNat q.at_) (by omega))
    have hs := snow_mono (m := q.sh.mouth) (e := q.sh.empty) (k := sa q.sh.st (Int.toNat q.at_)) ht.1 ht.2
    have m0 : 1 ≤ q.sh.mouth * (sa q.sh.st (Int.toNat q.at_)).1 := by
      have := Int.mul_pos (a := q.sh.mouth) (b := (sa q.sh.st (Int.toNat q.at_)).1) (by omega) (by have := h3.2; omega)
      omega
    have m2 : 20 * q.sh.mouth * (sa q.sh.st (Int.toNat q.at_)).1 = 20 * (q.sh.mouth * (sa q.sh.st (Int.toNat q.at_)).1) := Int.mul_assoc _ _ _
    exact ⟨Int.tdiv_le_tdiv (by omega) (by omega), up_mono m0 (by omega)⟩
  | n + 5, he =>
    have he : lookE no rate ts q.sh 0 k = 0 := he
    obtain ⟨_, h6, _, _⟩ := sheetOfE_0 (stakeOfE_0 (lookE_0 he).1).1
    obtain ⟨_, _, _, ⟨m1, _⟩, ⟨l1, _⟩, _⟩ := sheetB_s h6
    have hs := sum_mono (m := q.sh.mouth) (e := q.sh.empty) (sk := q.sh.st) ht.1 ht.2
    have m0 : 1 ≤ q.sh.mouth * (q.sh.st.length : Int) := by
      have := Int.mul_pos (a := q.sh.mouth) (b := (q.sh.st.length : Int)) (by omega) (by omega)
      omega
    exact ⟨Int.tdiv_le_tdiv (by omega) hs.1, up_mono m0 hs.2⟩
/-- A scale that is apart is known by its error. -/
theorem look13 {no rate k at_ : Int} {ts : List Test} {sh : Sh} (h : lookE no rate ts sh at_ k = 13) : scaleE no rate ts = 13 ∨ turnsLo rate ts sh k > turnsH rate ts sh k := by
  unfold lookE at h
  cases h1 : eqI (stakeOfE no rate ts sh at_ k) 0 with
  | true =>
    rw [h1] at h
    unfold turnsE at h
    by_cases h2 : turnsLo rate ts sh k > turnsH rate ts sh k
    · exact .inr h2
    · simp [h2] at h
  | false =>
    rw [h1] at h
    have h : stakeOfE no rate ts sh at_ k = 13 := h
    unfold stakeOfE at h
    cases h3 : eqI (sheetOfE no rate ts sh k) 0 with
    | true => rw [h3] at h; cases hx : (decide (at_ < 0) || decide (at_ ≥ (sh.st.length : Int))) <;> rw [hx] at h <;> cases h
    | false =>
      rw [h3] at h
      have h : sheetOfE no rate ts sh k = 13 := h
      unfold sheetOfE at h
      cases h4 : eqI (scaleE no rate ts) 0 with
      | false => rw [h4] at h; exact .inl h
      | true => rw [h4] at h; cases hx : sheetB sh <;> rw [hx] at h <;> cases hy : (!eqI no sh.scale || !dayB k) <;> simp [hy] at h
theorem turnsE_0 {rate k : Int} {ts : List Test} {sh : Sh} (h : turnsE rate ts sh k = 0) : turnsLo rate ts sh k ≤ turnsH rate ts sh k := by
  unfold turnsE at h
  by_cases h2 : turnsLo rate ts sh k > turnsH rate ts sh k
  · rw [decide_eq_true h2] at h; cases h
  · omega
theorem dens_0 {no rate k at_ : Int} {ts : List Test} {sh : Sh} (h : densE no rate ts sh at_ k = 0) : stakeOfE no rate ts sh at_ k = 0 ∧ turnsE rate ts sh k = 0 := by
  unfold densE at h
  cases h1 : eqI (stakeOfE no rate ts sh at_ k) 0 with
  | false => rw [h1] at h; have h : stakeOfE no rate ts sh at_ k = 0 := h; rw [h] at h1; cases h1
  | true =>
    rw [h1] at h
    cases h2 : eqI (sa sh.st (Int.toNat at_)).1 0 with
    | true => rw [h2] at h; cases h
    | false => rw [h2] at h; exact ⟨eqI_s.1 h1, h⟩
theorem dens13 {no rate k at_ : Int} {ts : List Test} {sh : Sh} (h : densE no rate ts sh at_ k = 13) : scaleE no rate ts = 13 ∨ turnsLo rate ts sh k > turnsH rate ts sh k := by
  cases h1 : eqI (stakeOfE no rate ts sh at_ k) 0 with
  | false =>
    refine look13 (at_ := at_) ?_
    unfold densE at h
    unfold lookE
    rw [h1] at h ⊢
    exact h
  | true =>
    refine look13 (at_ := at_) ?_
    unfold densE at h
    unfold lookE
    rw [h1] at h ⊢
    cases h2 : eqI (sa sh.st (Int.toNat at_)).1 0 with
    | true => rw [h2] at h; cases h
    | false => rw [h2] at h; exact h
theorem ask13 {no rate : Int} {ts : List Test} {l : List (Int × Unit)} (h : askE no rate ts l = 13) : scaleE no rate ts = 13 := by
  unfold askE at h
  cases h1 : eqI (scaleE no rate ts) 0 with
  | false => rw [h1] at h; exact h
  | true => rw [h1] at h; cases hx : (daysU l).1 <;> rw [hx] at h <;> cases h
theorem mE_0 {v : Nat} {q : Ask} {no rate k : Int} {ts : List Test} (h : mE v q no rate ts k = 0) : scaleE no rate ts = 0 ∧ (2 ≤ v → turnsLo rate ts q.sh k ≤ turnsH rate ts q.sh k) := by
  match v, h with
  | 0, h => exact ⟨(askE_0 h).1, fun h2 => by omega⟩
  | 1, h => exact ⟨(askE_0 h).1, fun h2 => by omega⟩
  | 2, h => exact ⟨(sheetOfE_0 (stakeOfE_0 (lookE_0 h).1).1).1, fun _ => turnsE_0 (lookE_0 h).2⟩
  | 3, h => exact ⟨(sheetOfE_0 (stakeOfE_0 (lookE_0 h).1).1).1, fun _ => turnsE_0 (lookE_0 h).2⟩
  | 4, h => exact ⟨(sheetOfE_0 (stakeOfE_0 (dens_0 h).1).1).1, fun _ => turnsE_0 (dens_0 h).2⟩
  | n + 5, h => exact ⟨(sheetOfE_0 (stakeOfE_0 (lookE_0 h).1).1).1, fun _ => turnsE_0 (lookE_0 h).2⟩
theorem mE_13 {v : Nat} {q : Ask} {no rate k : Int} {ts : List Test} (h : mE v q no rate ts k = 13) : scaleE no rate ts = 13 ∨ (2 ≤ v ∧ turnsLo rate ts q.sh k > turnsH rate ts q.sh k) := by
  match v, h with
  | 0, h => exact .inl (ask13 h)
  | 1, h => exact .inl (ask13 h)
  | 2, h => exact (look13 h).imp id fun a => ⟨by omega, a⟩
  | 3, h => exact (look13 h).imp id fun a => ⟨by omega, a⟩
  | 4, h => exact (dens13 h).imp id fun a => ⟨by omega, a⟩
  | n + 5, h => exact (look13 h).imp id fun a => ⟨by omega, a⟩
theorem good_of {v : Nat} {q : Ask} {no rate k k' : Int} {ts : List Test} (su : List Test) (hsu : su = [] ∨ scaleE no rate ts = 0) (hk : k ≤ k') :
    good1 v q (mE v q no rate ts k) (mL v q no rate ts k) (mH v q no rate ts k) no rate (ts ++ su) k' = true := by
  unfold good1 goodB
  rw [Bool.not_eq_true', Bool.or_eq_false_iff]
  constructor
  · cases h1 : mE v q no rate ts k == 0 with
    | false => rfl
    | true =>
      cases h2 : mE v q no rate (ts ++ su) k' == 0 with
      | false => rfl
      | true =>
        have h1 : mE v q no rate ts k = 0 := by simpa using h1
        have h2 : mE v q no rate (ts ++ su) k' = 0 := by simpa using h2
        have hm := mR_mono su hk h1
        unfold mL mH spanIf insideB
        rw [h1, h2]
        simp [eqI, hm.1, hm.2]
  · cases h1 : mE v q no rate ts k == 13 with
    | false => rfl
    | true =>
      have h1 : mE v q no rate ts k = 13 := by simpa using h1
      have h2 : mE v q no rate (ts ++ su) k' ≠ 0 := by
        intro h2
        obtain ⟨g1, g2⟩ := mE_0 h2
        rcases mE_13 h1 with h3 | ⟨h3, h4⟩
        · rcases hsu with rfl | hsu
          · rw [List.append_nil] at g1; omega
          · omega
        · have := g2 h3
          have ht := turns_mono (rate := rate) (ts := ts) (sh := q.sh) su hk
          omega
      simpa using h2
theorem goodV_of {v : Nat} {q : Ask} {no rate k k' : Int} {ts : List Test} (su : List Test) (hsu : su = [] ∨ scaleE no rate ts = 0) (hk : k ≤ k') : goodV v q no rate ts no rate (ts ++ su) k k' = true := by
  have g := fun (su : List Test) hsu (k' : Int) (hk : k ≤ k') => good_of (v := v) (q := q) (no := no) (rate := rate) (ts := ts) (k := k) (k' := k') su hsu hk
  have g0 := fun (k' : Int) (hk : k ≤ k') => g [] (.inl rfl) k' hk
  simp only [List.append_nil] at g0
  unfold goodV good2
  rw [g0 k (Int.le_refl _), g0 k' hk, g su hsu k (Int.le_refl _), g su hsu k' hk]
  rfl
theorem more_ev (no rate a b c d n1 n2 n3 n4 n5 n6 n7 n8 stake d0 d1 d2 d3 : Int) (ts : List Test) (fl : Bool) (sk : List Stk) (sf : Bool) : evP P M4 8 [.agg [.i .i64 no, .i .i64 rate, .ls T26 ts fl], .agg [.i .i64 a, .i .i64 b, .i .i64 c, .i .i64 d], .agg [.i .i64 n1, .i .i64 n2, .i .i64 n3, .i .i64 n4, .i .i64 n5, .i .i64 n6, .i .i64 n7, .i .i64 n8, .ls T71 sk sf], .i .i64 stake, .agg [.i .i64 d0, .i .i64 d1, .i .i64 d2, .i .i64 d3]] = some (.b true) := by
  refine (e8 no rate a b c d n1 n2 n3 n4 n5 n6 n7 n8 stake d0 d1 d2 d3 ts fl sk sf).trans ?_
  by_cases h1 : (ts.length : Int) > 100
  · rw [cond_pos (by simpa using h1)]
  by_cases h2 : (sk.length : Int) > 100
  · rw [cond_neg (by simpa using h1), cond_pos (by simpa using h2)]
  by_cases h3 : d3 < d2
  · rw [cond_neg (by simpa using h1), cond_neg (by simpa using h2), cond_pos (by simpa using h3)]
  rw [cond_neg (by simpa using h1), cond_neg (by simpa using h2), cond_neg (by simpa using h3), neq0]
  have hk : d2 ≤ d3 := by omega
  cases he : eqI (addE no rate ts (a, b, c, d, ())) 0 with
  | false =>
    have g := fun v q => goodV_of (v := v) (q := q) (no := no) (rate := rate) (ts := ts) (k := d2) (k' := d3) [] (.inl rfl) hk
    simp only [List.append_nil] at g
    rw [cond_pos (by rfl), cond_pos (by rw [sameSt_s.2 rfl]; unfold COND8o; simp only [g]; rfl)]
  | true =>
    have h0 := eqI_s.1 he
    have hs : scaleE no rate ts = 0 := by
      unfold addE at h0
      cases hx : eqI (scaleE no rate ts) 0 with
      | true => exact eqI_s.1 hx
      | false => rw [hx] at h0; exact h0
    have t1 : addT no rate ts (a, b, c, d, ()) = ts ++ [(a, b, c, d, ())] := by unfold addT; rw [he]; rfl
    have t2 : spanIf (addE no rate ts (a, b, c, d, ())) no = no := by unfold spanIf; rw [he]; rfl
    have t3 : spanIf (addE no rate ts (a, b, c, d, ())) rate = rate := by unfold spanIf; rw [he]; rfl
    have g := fun v q => goodV_of (v := v) (q := q) (no := no) (rate := rate) (ts := ts) (k := d2) (k' := d3) [(a, b, c, d, ())] (.inr hs) hk
    rw [cond_neg (by rfl), t1, t2, t3, cond_pos (by rw [sameSt_s.2 rfl]; unfold COND8o; simp only [g]; rfl)]
end Go.Mini.Co
end
section
set_option linter.unusedVariables false
namespace Go.Mini.Co
open Go Go.Mini
theorem ok13m : ∀ args v, h13m args = some (true, v) → Pure P TabX 13 args v := by
  intro args v hv
  unfold h13m at hv
  split at hv
  case h_2 => cases hv
  simp only [Option.some.injEq, Prod.mk.injEq, true_and] at hv
  subst hv
  exact evP_sound (deepen_ok hkS_ok 40) sane_ev
theorem M4_ok : HooksOK P TabX M4 := ((M3_ok base_ok).loop1 (lok8o base_ok)).call1 ok13m
theorem more_pure (no rate a b c d n1 n2 n3 n4 n5 n6 n7 n8 stake d0 d1 d2 d3 : Int) (ts : List Test) (fl : Bool) (sk : List Stk) (sf : Bool) : Pure P TabX 8 [.agg [.i .i64 no, .i .i64 rate, .ls T26 ts fl], .agg [.i .i64 a, .i .i64 b, .i .i64 c, .i .i64 d], .agg [.i .i64 n1, .i .i64 n2, .i .i64 n3, .i .i64 n4, .i .i64 n5, .i .i64 n6, .i .i64 n7, .i .i64 n8, .ls T71 sk sf], .i .i64 stake, .agg [.i .i64 d0, .i .i64 d1, .i .i64 d2, .i .i64 d3]] (.b true) :=
  evP_sound M4_ok (more_ev no rate a b c d n1 n2 n3 n4 n5 n6 n7 n8 stake d0 d1 d2 d3 ts fl sk sf)
end Go.Mini.Co
end
section
/- For every input that is laid in the world, with the listed tables as_ the program's text lays them, the law CourseMore returns true, and its arguments read as_ before; no condition. -/
set_option linter.unusedVariables false
namespace Go.Proofs.YtapijkdgkajoeaaDoor
open Go.ChangeShapes Go.WideShapes Go.ChangeAt Go.RowKit

set_option maxRecDepth 100000 in
theorem courseMore_lifted (os : Os) (started : os.Started) (H : Type) (enc : TypeId × Value → H) :
    ReturnsInHanded {} Tryd.checked os 8 .any (fun w args => (Rows.courseMoreSpec.pre enc Tryd.prog Tryd.f8 [] false w args ∧ laidMetH Tryd.prog laid3 w) ∧ sizedMet enc Tryd.prog Tryd.f8 (OpenSpec.ofChange Rows.courseMoreSpec) false w args)
      (Rows.courseMoreSpec.post enc Tryd.prog Tryd.f8 false true false false) := by
  refine returnsInHanded_of_change_and (C := Tryd.checked) (X := fun w _ => laidMetH Tryd.prog laid3 w) (fun _ _ _ hh h => h.of_heap hh) ownNo started (by kernel_rfl) Tryd.func8
    (ChangeSpec.witness_shaped (enc := enc) (C := Tryd.checked) (os := os) (X := fun w _ => laidMetH Tryd.prog laid3 w) false (World.doorLaid Tryd.prog 24 os)
      #[.agg #[.int .i64 0, .int .i64 0, .slice none 0 0], .agg #[.int .i64 0, .int .i64 0, .int .i64 0, .int .i64 0], .agg #[.int .i64 0, .int .i64 0, .int .i64 0, .int .i64 0, .int .i64 0, .int .i64 0, .int .i64 0, .int .i64 0, .slice none 0 0], .int .i64 0, .agg #[.int .i64 0, .int .i64 0, .int .i64 0, .int .i64 0]] 8 rfl (World.shaped_of_RefB (by kernel_rfl) (by kernel_rfl)) (by kernel_rfl) (by kernel_rfl) (by kernel_rfl) (door_met os _)) ?_
  intro W base args ds gs before hval0 hW _ _ hL _
  have hval : ∀ (j : Nat) t v, Tryd.f8.params[j]? = some t → args[j]? = some v → Value.okWide Tryd.prog W .any base t v := hval0
  have hW' := hW
  obtain ⟨p, q, hA0, hV, rfl, hfz, hnd⟩ := hW
  have hA : DataW.TrodAll enc Tryd.prog W 0 (fun _ => true) true Tryd.f8.params.toList args.toList ds p := hA0
  rw [Tryd.params8] at hA hval
  obtain ⟨v0, vs0, d0, ds0, p0, q0, hargs, rfl, rfl, h0, k0⟩ := trodAll_cons hA
  obtain ⟨v1, vs1, d1, ds1, p1, q1, rfl, rfl, rfl, h1, k1⟩ := trodAll_cons k0
  obtain ⟨v2, vs2, d2, ds2, p2, q2, rfl, rfl, rfl, h2, k2⟩ := trodAll_cons k1
  obtain ⟨v3, vs3, d3, ds3, p3, q3, rfl, rfl, rfl, h3, k3⟩ := trodAll_cons k2
  obtain ⟨v4, vs4, d4, ds4, p4, q4, rfl, rfl, rfl, h4, k4⟩ := trodAll_cons k3
  obtain ⟨rfl, rfl, rfl⟩ := trodAll_nil k4
  obtain rfl : args = #[v0, v1, v2, v3, v4] := by cases args; simp_all
  obtain ⟨rfl, rfl⟩ := trodVars_none hV
  have lt0 := argLt h0
  have lt1 := argLt h1
  have lt2 := argLt h2
  have lt3 := argLt h3
  have lt4 := argLt h4
  obtain ⟨r0, o0, g0⟩ := Mini.argAgg 9 (show Mini.flat Tryd.prog 9 24 = some [.i .i64, .i .i64, .sl [.i .i64, .i .i64, .i .i64, .i .i64]] by kernel_rfl) (by kernel_rfl) (hval 0 24 v0 rfl rfl) h0
  obtain ⟨r1, o1, g1⟩ := Mini.argAgg 9 (show Mini.flat Tryd.prog 9 26 = some [.i .i64, .i .i64, .i .i64, .i .i64] by kernel_rfl) (by kernel_rfl) (hval 1 26 v1 rfl rfl) h1
  obtain ⟨r2, o2, g2⟩ := Mini.argAgg 9 (show Mini.flat Tryd.prog 9 47 = some [.i .i64, .i .i64, .i .i64, .i .i64, .i .i64, .i .i64, .i .i64, .i .i64, .sl [.i .i64, .i .i64, .i .i64, .i .i64, .i .i64]] by kernel_rfl) (by kernel_rfl) (hval 2 47 v2 rfl rfl) h2
  obtain ⟨r3, o3, g3⟩ := Mini.argOne 9 (show Mini.flat Tryd.prog 9 3 = some [.i .i64] by kernel_rfl) (by kernel_rfl) (hval 3 3 v3 rfl rfl) h3
  obtain ⟨r4, o4, g4⟩ := Mini.argAgg 9 (show Mini.flat Tryd.prog 9 61 = some [.i .i64, .i .i64, .i .i64, .i .i64] by kernel_rfl) (by kernel_rfl) (hval 4 61 v4 rfl rfl) h4
  clear hA0 hval0
  have hv : Mini.VRels (fun _ => none) (Mini.ownF W) [.agg (Mini.rowV [.i .i64, .i .i64, .sl [.i .i64, .i .i64, .i .i64, .i .i64]] r0), .agg (Mini.rowV [.i .i64, .i .i64, .i .i64, .i .i64] r1), .agg (Mini.rowV [.i .i64, .i .i64, .i .i64, .i .i64, .i .i64, .i .i64, .i .i64, .i .i64, .sl [.i .i64, .i .i64, .i .i64, .i .i64, .i .i64]] r2), Mini.cellV (.i .i64) r3, .agg (Mini.rowV [.i .i64, .i .i64, .i .i64, .i .i64] r4)] (#[v0, v1, v2, v3, v4] : Array Value).toList := by
    simp only [Mini.VRels]
    exact ⟨_, _, rfl, g0 _, ⟨_, _, rfl, g1 _, ⟨_, _, rfl, g2 _, ⟨_, _, rfl, g3 _, ⟨_, _, rfl, g4 _, rfl⟩⟩⟩⟩⟩
  have hcall : Mini.Pure Tryd.prog Mini.Co.TabX 8 [.agg (Mini.rowV [.i .i64, .i .i64, .sl [.i .i64, .i .i64, .i .i64, .i .i64]] r0), .agg (Mini.rowV [.i .i64, .i .i64, .i .i64, .i .i64] r1), .agg (Mini.rowV [.i .i64, .i .i64, .i .i64, .i .i64, .i .i64, .i .i64, .i .i64, .i .i64, .sl [.i .i64, .i .i64, .i .i64, .i .i64, .i .i64]] r2), Mini.cellV (.i .i64) r3, .agg (Mini.rowV [.i .i64, .i .i64, .i .i64, .i .i64] r4)] (.b true) := Mini.Co.more_pure r0.1 r0.2.1 r1.1 r1.2.1 r1.2.2.1 r1.2.2.2.1 r2.1 r2.2.1 r2.2.2.1 r2.2.2.2.1 r2.2.2.2.2.1 r2.2.2.2.2.2.1 r2.2.2.2.2.2.2.1 r2.2.2.2.2.2.2.2.1 r3 r4.1 r4.2.1 r4.2.2.1 r4.2.2.2.1 r0.2.2.1 false r2.2.2.2.2.2.2.2.2.1 false
  refine (Mini.calls_true hcall.2 (tab_of_laid hL) hv).mono fun e W' ⟨he, bel⟩ => ?_
  subst he
  exact ⟨_, rfl, _, _, _, [], _, [], hW', trodAll_mk1 (shut_bool Tryd.underlying4 _), (trodAll_cons_mk (Below.trod laidOut (by kernel_rfl) (of_decide_eq_true (by kernel_rfl)) h0 bel lt0) (trodAll_cons_mk (Below.trod laidOut (by kernel_rfl) (of_decide_eq_true (by kernel_rfl)) h1 bel lt1) (trodAll_cons_mk (Below.trod laidOut (by kernel_rfl) (of_decide_eq_true (by kernel_rfl)) h2 bel lt2) (trodAll_cons_mk (Below.trod laidOut (by kernel_rfl) (of_decide_eq_true (by kernel_rfl)) h3 bel lt3) (trodAll_cons_mk (Below.trod laidOut (by kernel_rfl) (of_decide_eq_true (by kernel_rfl)) h4 bel lt4) trodAll_mk0))))), rfl, bel.frame _, fun h => by cases h⟩

theorem courseMore_row_holds : Rows.CourseMoreSaid :=
  OpenClaim.holds_of_wide 8 Tryd.f8 rfl rfl rfl rfl rfl rfl rfl ⟨rfl, rfl, rfl, rfl, rfl⟩ rfl rfl rfl rfl rfl (by kernel_rfl) Tryd.func8 (by kernel_rfl)
    (of_decide_eq_true (by kernel_rfl)) (by unfold Func.isWrapper; first | (rw [if_pos (by decide +kernel)]; kernel_rfl) | (rw [if_neg (by decide +kernel)]; exact ⟨rfl, rfl⟩))
    (fun os started H enc _ => courseMore_lifted os started H enc)

/-- The tied card of CourseMore. -/
theorem courseMore_card_holds : Rows.CourseMoreCardSaid :=
  Claim7.holds_tied_plain_at .later [] [.data, .data, .data] true (true, "2280f43e37630aca62f1f244f2a23adb94f0c0035697a9b1153db5b69b706103") false
    courseMore_row_holds (fun _ h => by cases h) (by kernel_rfl) (fun _ h => by cases h) courseMore_row_tie rfl ⟨rfl, rfl⟩ (by kernel_rfl) rfl
    (fun f fn hf hfn => by
      obtain rfl : f = 8 := Option.some.inj ((show Tryd.prog.funcNamed "snowline/snowlinelaw01.CourseMore" = some 8 by kernel_rfl).symm.trans hf) |>.symm
      obtain rfl : fn = Tryd.f8 := (Option.some.inj (Tryd.func8.symm.trans hfn)).symm
      exact ⟨by kernel_rfl, fun j t ht => by
        rw [Tryd.params8] at ht
        have hm : t ∈ [24, 26, 47, 3, 61] := by simpa using Array.mem_of_getElem? ht
        have hall : ([24, 26, 47, 3, 61].all fun u => !Tryd.prog.wantsStandIn u) = true := by kernel_rfl
        exact (show Tryd.prog.wantsStandIn t = false by simpa using List.all_eq_true.1 hall t hm)⟩)
    (by kernel_rfl)
end Go.Proofs.YtapijkdgkajoeaaDoor
end
