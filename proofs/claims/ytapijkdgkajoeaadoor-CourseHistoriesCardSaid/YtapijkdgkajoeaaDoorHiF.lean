/- What the law's proof leans on. Part 6 of 6. -/
import Derived.Test.YtapijkdgkajoeaaDoorHiE
import Derived.Test.YtapijkdgkajoeaaDoorCards
import Derived.Test.YtapijkdgkajoeaaDoorTie
import Derived.Stop.Joined
import Derived.SevenTiedAt
section
namespace Go.Proofs.YtapijkdgkajoeaaDoor.PF
open Go.RowKit Go.Proofs.YtapijkdgkajoeaaDoorW.PrintWords Go.Proofs.YtapijkdgkajoeaaDoorW.PrintLast Go.Proofs.YtapijkdgkajoeaaDoorW.PrintMore
set_option linter.unusedVariables false
set_option linter.unusedSimpArgs false
def putT (sep : List UInt8) (l : List Int) : List UInt8 := l.flatMap fun n => sep ++ Lib.itoa n
theorem putT_snoc (sep : List UInt8) (l : List Int) (n : Int) : putT sep (l ++ [n]) = putT sep l ++ (sep ++ Lib.itoa n) := by simp [putT]
theorem putT_app (sep : List UInt8) (l m : List Int) : putT sep (l ++ m) = putT sep l ++ putT sep m := by simp [putT]
theorem strCells_mk (l : List UInt8) : Lib.strCells ⟨l.toArray⟩ = Lib.byteCells l := by simp [Lib.strCells, Lib.byteCells]
theorem size_mk (l : List UInt8) : (⟨l.toArray⟩ : ByteArray).size = l.length := by simp [ByteArray.size]
theorem byteCells_app (l m : List UInt8) : Lib.byteCells (l ++ m) = Lib.byteCells l ++ Lib.byteCells m := by simp [Lib.byteCells]
theorem Itoa_calls (n : Int) (h0 : -9223372036854775808 ≤ n) (h1 : n ≤ 9223372036854775807) (w : World) (hT : TabH w) :
    Calls Tryd.prog 138 #[.int .i64 n] w fun e w' => e = .returned (.string ⟨(Lib.itoa n).toArray⟩) ∧ Below w.heap.size w w' := by
  refine (Tryd.strconv_Itoa n h0 h1 w hT.out).mono ?_
  rintro e w' ⟨rfl, k, os, rfl⟩
  exact ⟨rfl, Lib.below_grow _ w (Nat.le_refl _) k os⟩
theorem addr_at (g x : Nat) : (⟨g, 0, none⟩ : Addr).add x = ⟨g, x, none⟩ := by
  unfold Addr.add
  split
  · rename_i h
    rw [h]
  · simp
theorem ofUsed {B b : Nat} {bs : List Value} {w : World} (h : Lib.BuilderAt 144 5 B b (.pointer (some ⟨b, 0, none⟩)) bs w) : Lib.IsBuilder 144 5 B b bs w := Or.inr h
theorem c_of_block {w : World} {g : Nat} {l : List Int} {fr : Nat × Nat} (hg : w.heap[g]? = some (.cells (l.map (Value.int .i64)).toArray 3 fr)) (hm : l.length ≤ 9223372036854775807) : Kd.C (Kd.int .i64) w (some ⟨g, 0, none⟩) l.length l := by
  refine ⟨rfl, hm, fun _ => ⟨_, rfl, fun j p hj => ⟨[.int .i64 p], rfl, rfl, fun i u hu => ?_⟩⟩⟩
  match i, hu with
  | 0, hu =>
    obtain rfl := Option.some.inj hu
    have e : (⟨g, 0, none⟩ : Addr).add (j * (Kd.int .i64).sz + 0) = ⟨g, j, none⟩ := by
      have h1 : (Kd.int .i64).sz = 1 := rfl
      rw [h1, Nat.mul_one, Nat.add_zero, addr_at]
    rw [e, Lib.cell_of_heap hg]
    simp [hj]
theorem rd_mem {l : List Int} {x : Int} (h0 : 0 ≤ x) (h1 : x < l.length) : rd l x ∈ l := by
  have e : x.toNat < l.length := by omega
  have : rd l x = l[x.toNat] := by simp [rd, List.getD, e]
  rw [this]
  exact List.getElem_mem e
theorem take_rd {l : List Int} {x : Int} (h0 : 0 ≤ x) (h1 : x < l.length) : l.take (x + 1).toNat = l.take x.toNat ++ [rd l x] := by
  have e : x.toNat < l.length := by omega
  have e2 : rd l x = l[x.toNat] := by simp [rd, List.getD, e]
  have e3 : (x + 1).toNat = x.toNat + 1 := by omega
  rw [e2, e3, List.take_add_one]
  simp [e]
theorem putT_len_take (sep : List UInt8) (l : List Int) (i : Nat) : (putT sep (l.take i)).length ≤ (putT sep l).length := by
  have h := putT_app sep (l.take i) (l.drop i)
  rw [List.take_append_drop] at h
  rw [h, List.length_append]
  omega
theorem tab_B {B : Nat} {w w' : World} (h : TabH w) (hb : Below B w w') (hB : 0 < B) : TabH w' := by
  obtain ⟨h⟩ := h
  refine ⟨?_⟩
  unfold Lib.TabIs World.var? at h ⊢
  rw [tabG] at h ⊢
  simp only [Option.bind_some] at h ⊢
  rw [hb.block 0 hB]
  exact h
set_option maxHeartbeats 4000000 in
set_option maxRecDepth 100000 in
theorem put_calls (B b g : Nat) (bs : List Value) (sep : List UInt8) (c : Nat) (l : List Int) (fr : Nat × Nat) (w : World) (hT : TabH w) (hI : Lib.IsBuilder 144 5 B b bs w)
    (hg : w.heap[g]? = some (.cells (l.map (Value.int .i64)).toArray 3 fr)) (hgb : g ≠ b) (hl : ∀ n ∈ l, -9223372036854775808 ≤ n ∧ n ≤ 9223372036854775807) (hm : l.length ≤ 9223372036854775806)
    (hlen : bs.length + (putT sep l).length ≤ 140737488355328) (hBw : B ≤ w.heap.size) (hB0 : 0 < B) :
    Calls Tryd.prog 126 #[.pointer (some ⟨b, 0, none⟩), .string ⟨sep.toArray⟩, .slice (some ⟨g, 0, none⟩) l.length c] w fun e w' => e = .returned (.tuple #[]) ∧ Lib.IsBuilder 144 5 B b (bs ++ Lib.byteCells (putT sep l)) w' ∧ Below B w w' ∧ KeptT b w w' := by
  have t144 := Tryd.underlying144
  have t157 := Tryd.underlying157
  have t51 := Tryd.underlying51
  go_enter Tryd.func126, Tryd.ntmps126
  go_wp2
  go_loopg [10] l.length (fun kq v10 w' => ∃ x : Int, v10 = .int .i64 x ∧ 0 ≤ x ∧ x ≤ (l.length : Int) ∧ (kq : Int) = l.length - x ∧ Lib.IsBuilder 144 5 B b (bs ++ Lib.byteCells (putT sep (l.take x.toNat))) w' ∧ Below B w w' ∧ KeptT b w w')
  case atStart => exact ⟨0, rfl, by omega, by omega, by omega, by simpa [putT, Lib.byteCells] using hI, Below.refl _ _, KeptT.refl _ _⟩
  case round =>
    obtain ⟨x, rfl, hx0, hx1, hk, hI1, hb1, hk1⟩ := hrel
    by_cases c3 : x < (l.length : Int)
    · have d3 : decide (x < (l.length : Int)) = true := decide_eq_true c3
      have p0 : 0 ≤ x := hx0
      have hC := c_of_block (hk1 g _ _ _ hg (by decide) hgb) (by omega)
      obtain ⟨ad, ea, hxc⟩ := Kd.at_int hC x p0 c3
      cases ea
      replace hxc : wr.cell? ⟨g, x.toNat, none⟩ = some (.int .i64 (rd l x)) := by rw [← addr_at g x.toNat]; exact hxc
      have hmem := hl _ (rd_mem hx0 c3)
      have hpl := putT_len_take sep l (x + 1).toNat
      rw [take_rd hx0 c3, putT_snoc] at hpl
      simp only [List.length_append] at hpl
      replace p0 := eq_true p0
      have q0 := eq_true c3
      go_wp2_with (go_at_call 125; refine (WriteString_calls B b _ ⟨sep.toArray⟩ _ hI1 ?l1 ?s1).mono ?_; (case l1 => rw [size_mk, List.length_append, Lib.byteCells_length]; omega); (case s1 => have := hb1.size; omega); rintro e w1 ⟨rfl, h2, hb2, hk2⟩)
      have hbx := hb1.trans hb2
      have hkx := hk1.trans hk2
      refine start_ (n := 6) (S := fun w' => Lib.BuilderAt 144 5 B b (.pointer (some ⟨b, 0, none⟩)) (bs ++ Lib.byteCells (putT sep (l.take x.toNat)) ++ Lib.strCells ⟨sep.toArray⟩) w' ∧ Below B w w' ∧ KeptT b w w') (ds := [5]) #[false, false, false, false, false, false] (by kernel_rfl) rfl rfl ⟨h2, hbx.drew, hkx⟩ (fun hHeld => ?_)
      refine pure_ (i := 0) (N := some 19) (v := ?_) (a' := ?_) #[true, false, false, false, false, false] rfl rfl (by kernel_rfl) (fun _ _ _ h => h) (Or.inl ⟨by rfl, ?_⟩) ?_ ?_
      rotate_left
      · intro w'
        go_simp
        with_reducible rfl
      rotate_left
      · simp only [Act.put, List.setIfInBounds_toArray, List.set_cons_zero, List.set_cons_succ, i64_w]
        rfl
      refine pure_ (i := 1) (N := some 20) (v := ?_) (a' := ?_) #[true, true, false, false, false, false] rfl rfl (by kernel_rfl) (fun _ _ _ h => h) (Or.inl ⟨by rfl, ?_⟩) ?_ ?_
      rotate_left
      · intro w'
        go_simp
        with_reducible rfl
      rotate_left
      · simp only [Act.put, List.setIfInBounds_toArray, List.set_cons_zero, List.set_cons_succ, i64_w]
        rfl
      refine pure_ (i := 2) (N := some 21) (v := ?_) (a' := ?_) #[true, true, true, false, false, false] rfl rfl (by kernel_rfl) (fun _ _ _ h => h) (Or.inl ⟨by rfl, ?_⟩) ?_ ?_
      rotate_left
      · intro w'
        go_simp
        with_reducible rfl
      rotate_left
      · simp only [Act.put, List.setIfInBounds_toArray, List.set_cons_zero, List.set_cons_succ, i64_w]
        rfl
      refine pure_ (i := 3) (N := some 22) (v := ?_) (a' := ?_) #[true, true, true, true, false, false] rfl rfl (by kernel_rfl) (fun _ _ _ h => h) (Or.inl ⟨by rfl, ?_⟩) ?_ ?_
      rotate_left
      · intro w'
        go_simp
        with_reducible rfl
      rotate_left
      · simp only [Act.put, List.setIfInBounds_toArray, List.set_cons_zero, List.set_cons_succ, i64_w]
        rfl
      refine one_ (i := 4) (N := some 23) #[true, true, true, true, true, false] rfl rfl (by kernel_rfl) (by decide) (fun K hK => ?_)
      obtain ⟨s0, s1, s2⟩ := hHeld
      refine goes_ Tryd.func138 (by kernel_rfl) rfl #[.int .i64 (rd l x)] (by rfl) rfl rfl (by simp only [List.map_toArray, List.map_cons, List.map_nil]; rfl) ?_
      with_reducible refine (Itoa_calls (rd l x) hmem.1 hmem.2 _ (tab_B hT s1 hB0)).mono ?_
      rintro e w3 ⟨rfl, hb3⟩
      refine ⟨_, rfl, ?_⟩
      refine hK.out _ _ ⟨builder_below s0 hb3, s1.trans (hb3.mono (Nat.le_trans hBw s1.size)), s2.trans (KeptT.below hb3)⟩ (fun hHeld => ?_)
      clear hK K
      refine norm_ (a' := ?_) ?_ ?_
      rotate_left
      · show Act.put _ (some 23) _ = _
        simp only [Act.put, List.setIfInBounds_toArray, List.set_cons_zero, List.set_cons_succ, i64_w]
        rfl
      refine last_ (i := 5) (N := some 24) #[true, true, true, true, true, true] rfl rfl (by kernel_rfl) (by decide) (fun K hK => ?_)
      obtain ⟨s0, s1, s2⟩ := hHeld
      refine goes_ Tryd.func125 (by kernel_rfl) rfl #[.pointer (some ⟨b, 0, none⟩), .string ⟨(Lib.itoa (rd l x)).toArray⟩] (by rfl) rfl rfl (by simp only [List.map_toArray, List.map_cons, List.map_nil]; rfl) ?_
      with_reducible refine (WriteString_calls B b _ ⟨(Lib.itoa (rd l x)).toArray⟩ _ (ofUsed s0) (by rw [size_mk, strCells_mk, List.length_append, List.length_append, Lib.byteCells_length, Lib.byteCells_length]; omega) (Nat.le_trans hBw s1.size)).mono ?_
      rintro e w3 ⟨rfl, h4, hb4, hk4⟩
      refine ⟨_, rfl, ?_⟩
      refine hK.out _ _ ?_
      clear hK K
      refine norm_ (a' := ?_) ?_ ?_
      rotate_left
      · show Act.put _ (some 24) _ = _
        simp only [Act.put, List.setIfInBounds_toArray, List.set_cons_zero, List.set_cons_succ, i64_w]
        rfl
      refine done_ (by kernel_rfl) ?_
      go_wp2
      go_roundg (gk - 1)
      case measure => omega
      case rel =>
        refine ⟨x + 1, rfl, by omega, by omega, by omega, ?_, ?_, ?_⟩
        · rw [take_rd hx0 c3, putT_snoc, byteCells_app, byteCells_app, ← strCells_mk sep, ← strCells_mk (Lib.itoa (rd l x)), ← List.append_assoc, ← List.append_assoc]
          exact ofUsed h4
        · exact s1.trans hb4
        · exact s2.trans hk4
    · have d3 : decide (x < (l.length : Int)) = false := decide_eq_false c3
      have ex : x.toNat = l.length := by omega
      rw [ex, List.take_length] at hI1
      go_wp2
      go_end0
      exact ⟨rfl, hI1, hb1, hk1⟩
def stakeT (x : S71) : List UInt8 := putT [32] [x.f0] ++ putT [47] [x.f1, x.f2, x.f3, x.f4]
def sheetT (a0 a1 a2 a3 a4 a5 a6 a7 : Int) (l : List S71) : List UInt8 := ([115, 104, 101, 101, 116] ++ putT [32] [a0, a1, a2, a3, a4, a5, a6, a7]) ++ l.flatMap stakeT
def fit (n : Int) : Bool := decide (-9223372036854775808 ≤ n) && decide (n ≤ 9223372036854775807)
def fitS (x : S71) : Bool := fit x.f0 && fit x.f1 && fit x.f2 && fit x.f3 && fit x.f4
def fitSheet (a0 a1 a2 a3 a4 a5 a6 a7 : Int) (l : List S71) : Bool := [a0, a1, a2, a3, a4, a5, a6, a7].all fit && l.all fitS && decide ((sheetT a0 a1 a2 a3 a4 a5 a6 a7 l).length ≤ 140737488355328) && decide (l.length ≤ 9223372036854775806)
def course_PrintSheet.f (k : Nat) (a0 a1 a2 a3 a4 a5 a6 a7 : Int) (l : List S71) : Option (ByteArray × Int) :=
  (course_CheckSheet.f k a0 a1 a2 a3 a4 a5 a6 a7 l).bind fun e => if e = 0 then (if fitSheet a0 a1 a2 a3 a4 a5 a6 a7 l = true then some (⟨(sheetT a0 a1 a2 a3 a4 a5 a6 a7 l).toArray⟩, 0) else none) else some (⟨#[]⟩, e)
theorem course_PrintSheet.mono : ∀ a0 a1 a2 a3 a4 a5 a6 a7 l k, LeO (course_PrintSheet.f k a0 a1 a2 a3 a4 a5 a6 a7 l) (course_PrintSheet.f (k + 1) a0 a1 a2 a3 a4 a5 a6 a7 l) := by
  intro a0 a1 a2 a3 a4 a5 a6 a7 l k
  unfold course_PrintSheet.f
  exact LeO.bind (course_CheckSheet.mono _ _ _ _ _ _ _ _ _ k) (fun _ => LeO.refl _)
theorem fit_iff {n : Int} (h : fit n = true) : -9223372036854775808 ≤ n ∧ n ≤ 9223372036854775807 := by simpa [fit] using h
theorem box_cells {w : World} {g : Nat} {cs : Array Value} {T : Nat} (h : w.heap[g]? = some (.cells cs T (0, 0))) (j : Nat) (u : Value) (e : cs[j]? = some u) : w.cell? ⟨g, j, none⟩ = some u := (blk_cell h j).trans e
theorem lit_event {P : Program} {ops : Array Oper} {rest : List Oper} {o : Oper} {a : Act} {Q : Exit → Act → World → Prop} {W : World} (hgd : o.guard = none) {N : Tmp} (_hd : o.dst = some N) {cs : Array Value} {e : TypeId} {n : Nat}
    (hrun : (execOp a.eval o).run P W = .ok (.value (.slice (some ⟨W.heap.size, 0, none⟩) n n)) (W.alloc (.cells cs e (0, 0))))
    (h : ∀ g, g = W.heap.size → ∀ w1, w1.heap[g]? = some (.cells cs e (0, 0)) → Below W.heap.size W w1 → wpList P ops Q rest (a.put o.dst (.slice (some ⟨g, 0, none⟩) n n)) w1) : wpList P ops Q (o :: rest) a W :=
  Kd.event_run hgd hrun (h _ rfl _ (blk_new W _) (below_alloc (Below.refl _ _) _))
theorem tab_pos {w : World} (h : TabH w) : 0 < w.heap.size := by
  obtain ⟨h⟩ := h
  unfold Lib.TabIs World.var? at h
  rw [tabG] at h
  simp only [Option.bind_some] at h
  rcases Nat.lt_or_ge 0 w.heap.size with h' | h'
  · exact h'
  · rw [Array.getElem?_eq_none h'] at h
    cases h
theorem rd71_mem {l : List S71} {x : Int} (h0 : 0 ≤ x) (h1 : x < l.length) : rd_T71 l x ∈ l := by
  have e : x.toNat < l.length := by omega
  have : rd_T71 l x = l[x.toNat] := by simp [rd_T71, List.getD, e]
  rw [this]
  exact List.getElem_mem e
theorem take_rd71 {l : List S71} {x : Int} (h0 : 0 ≤ x) (h1 : x < l.length) : l.take (x + 1).toNat = l.take x.toNat ++ [rd_T71 l x] := by
  have e : x.toNat < l.length := by omega
  have e2 : rd_T71 l x = l[x.toNat] := by simp [rd_T71, List.getD, e]
  have e3 : (x + 1).toNat = x.toNat + 1 := by omega
  rw [e2, e3, List.take_add_one]
  simp [e]
theorem take_len (l : List S71) (i : Nat) : ((l.take i).flatMap stakeT).length ≤ (l.flatMap stakeT).length := by
  have h : (l.take i).flatMap stakeT ++ (l.drop i).flatMap stakeT = l.flatMap stakeT := by rw [← List.flatMap_append, List.take_append_drop]
  rw [← h, List.length_append]
  omega
theorem two_new (w : World) (o o' : Obj) : ((w.alloc o).alloc o').heap[w.heap.size]? = some o ∧ ((w.alloc o).alloc o').heap[w.heap.size + 1]? = some o' := by
  have hs : (w.alloc o).heap.size = w.heap.size + 1 := Array.size_push _
  refine ⟨blk_alloc (blk_new w o) o', ?_⟩
  rw [← hs]
  exact blk_new _ _
set_option maxHeartbeats 8000000 in
set_option maxRecDepth 100000 in
theorem course_PrintSheet.calls (k : Nat) (a0 a1 a2 a3 a4 a5 a6 a7 : Int) (A : Option Addr) (c : Nat) (l : List S71) (r1 : ByteArray) (r2 : Int) (w : World) (hT : TabH w) (hr : Kd.C k71 w A l.length l) (hc : l.length ≤ c) (h : course_PrintSheet.f k a0 a1 a2 a3 a4 a5 a6 a7 l = some (r1, r2)) :
    Calls Tryd.prog 68 #[.agg #[.int .i64 a0, .int .i64 a1, .int .i64 a2, .int .i64 a3, .int .i64 a4, .int .i64 a5, .int .i64 a6, .int .i64 a7, .slice A l.length c]] w fun e w' => e = .returned (.tuple #[.string r1, .int .i64 r2]) ∧ Below w.heap.size w w' := by
  have hu47 := Tryd.underlying47
  have hu71 := Tryd.underlying71
  have hu45 := Tryd.underlying45
  have hu51 := Tryd.underlying51
  have hu144 := Tryd.underlying144
  obtain ⟨e, hce, h⟩ := Option.bind_eq_some_iff.1 h
  by_cases he : e = 0
  · subst he
    rw [if_pos rfl] at h
    by_cases hf : fitSheet a0 a1 a2 a3 a4 a5 a6 a7 l = true
    · rw [if_pos hf] at h
      obtain ⟨rfl, rfl⟩ := Prod.mk.inj (Option.some.inj h)
      have hf' := hf
      simp only [fitSheet, Bool.and_eq_true, List.all_eq_true, decide_eq_true_eq] at hf'
      obtain ⟨⟨⟨hn, hs⟩, hlen⟩, hll⟩ := hf'
      have hl0 : 0 < w.heap.size := tab_pos hT
      go_enter Tryd.func68, Tryd.ntmps68
      go_wp2_with (first
        | ((with_reducible refine gate_dst (N := 1) rfl ?_); (try (refine gate_guard (by rfl) ?_; dsimp only)); refine box_event ?hg (N := 1) ?hd (cs := #[.int .i64 a0, .int .i64 a1, .int .i64 a2, .int .i64 a3, .int .i64 a4, .int .i64 a5, .int .i64 a6, .int .i64 a7, .slice A l.length c]) (t := 47) ?hr ?_; (case hd => rfl); (case hg => rfl); (case hr => first | (go_simp; done) | (go_simp; rfl)); intro gb hg w1 hbox hb1; clear hg; have z0 : w1.cell? ⟨gb, 0, none⟩ = some (.int .i64 a0) := box_cells hbox 0 _ rfl; have z1 : w1.cell? ⟨gb, 1, none⟩ = some (.int .i64 a1) := box_cells hbox 1 _ rfl; have z2 : w1.cell? ⟨gb, 2, none⟩ = some (.int .i64 a2) := box_cells hbox 2 _ rfl; have z3 : w1.cell? ⟨gb, 3, none⟩ = some (.int .i64 a3) := box_cells hbox 3 _ rfl; have z4 : w1.cell? ⟨gb, 4, none⟩ = some (.int .i64 a4) := box_cells hbox 4 _ rfl; have z5 : w1.cell? ⟨gb, 5, none⟩ = some (.int .i64 a5) := box_cells hbox 5 _ rfl; have z6 : w1.cell? ⟨gb, 6, none⟩ = some (.int .i64 a6) := box_cells hbox 6 _ rfl; have z7 : w1.cell? ⟨gb, 7, none⟩ = some (.int .i64 a7) := box_cells hbox 7 _ rfl; have z8 : w1.cell? ⟨gb, 8, none⟩ = some (.slice A l.length c) := box_cells hbox 8 _ rfl)
        | (go_at_call 31; refine (course_CheckSheet.calls k a0 a1 a2 a3 a4 a5 a6 a7 A c l 0 _ (Kd.C_below hr hb1) hc hce).mono ?_; rintro e w2 ⟨rfl, hb2⟩; have hs1 : 0 < w1.heap.size := Nat.lt_of_lt_of_le hl0 hb1.size; have hs2 : 0 < w2.heap.size := Nat.lt_of_lt_of_le hs1 hb2.size)
        | ((with_reducible refine gate_dst (N := 5) rfl ?_); (try (refine gate_guard (by rfl) ?_; dsimp only)); refine box_event ?hg (N := 5) ?hd (cs := #[.pointer none, .slice none 0 0]) (t := 144) ?hr ?_; (case hd => rfl); (case hg => rfl); (case hr => first | (go_simp; done) | (go_simp; rfl)); intro b hb w3 hbb hb3; have hbe := Aside0.mk hb; have hbp : 0 < b := Nat.lt_of_lt_of_eq hs2 hb.symm; clear hb; have hI3 : Lib.IsBuilder 144 5 b b [] w3 := Or.inl ⟨Nat.le_refl _, .slice none 0 0, hbb, World.ownsRow_nil _ _ _ _, by simp [Value.ownBlock]⟩))
      go_wp2_with (first
        | (go_at_call 125; refine (WriteString_calls b b [] ⟨[115, 104, 101, 101, 116].toArray⟩ _ hI3 (by decide) (Nat.le_of_lt (blk_lt hbb))).mono ?_; rintro e4 w4 ⟨rfl, h4, hb4, hk4⟩; have hbox4 := hk4 gb _ _ _ (blk_below (blk_below hbox hb2) hb3) (by decide) (by rw [hbe.out]; exact Nat.ne_of_lt (blk_lt (blk_below hbox hb2))); have y0 : w4.cell? ⟨gb, 0, none⟩ = some (.int .i64 a0) := box_cells hbox4 0 _ rfl; have y1 : w4.cell? ⟨gb, 1, none⟩ = some (.int .i64 a1) := box_cells hbox4 1 _ rfl; have y2 : w4.cell? ⟨gb, 2, none⟩ = some (.int .i64 a2) := box_cells hbox4 2 _ rfl; have y3 : w4.cell? ⟨gb, 3, none⟩ = some (.int .i64 a3) := box_cells hbox4 3 _ rfl; have y4 : w4.cell? ⟨gb, 4, none⟩ = some (.int .i64 a4) := box_cells hbox4 4 _ rfl; have y5 : w4.cell? ⟨gb, 5, none⟩ = some (.int .i64 a5) := box_cells hbox4 5 _ rfl; have y6 : w4.cell? ⟨gb, 6, none⟩ = some (.int .i64 a6) := box_cells hbox4 6 _ rfl; have y7 : w4.cell? ⟨gb, 7, none⟩ = some (.int .i64 a7) := box_cells hbox4 7 _ rfl; have y8 : w4.cell? ⟨gb, 8, none⟩ = some (.slice A l.length c) := box_cells hbox4 8 _ rfl)
        | ((with_reducible refine gate_dst (N := 31) rfl ?_); (try (refine gate_guard (by rfl) ?_; dsimp only)); refine lit_event ?hg (N := 31) ?hd (cs := #[.int .i64 a0, .int .i64 a1, .int .i64 a2, .int .i64 a3, .int .i64 a4, .int .i64 a5, .int .i64 a6, .int .i64 a7]) (e := 3) (n := 8) ?hr ?_; (case hd => rfl); (case hg => rfl); (case hr => first | (go_simp; done) | (go_simp; rfl)); intro g5 hg5 w5 hlit hb5; have hge := Aside0.mk hg5; clear hg5; have hbox5 := blk_below hbox4 hb5))
      refine (put_calls b b g5 _ [32] 8 [a0, a1, a2, a3, a4, a5, a6, a7] (0, 0) _ ?t1 (isBuilder_below (ofUsed h4) hb5) hlit ?t2 ?t3 (show 8 ≤ 9223372036854775806 by decide) ?t4 ?t5 hbp).mono ?_
      case t1 => exact tab_B (tab_B (tab_B (tab_B (tab_B hT hb1 hl0) hb2 hs1) hb3 hs2) hb4 hbp) hb5 (Nat.lt_of_lt_of_le hl0 (Nat.le_trans hb1.size (Nat.le_trans hb2.size (Nat.le_trans hb3.size hb4.size))))
      case t2 =>
        rw [hge.out]
        exact Nat.ne_of_gt (Nat.lt_of_lt_of_le (blk_lt hbb) hb4.size)
      case t3 => exact fun n hm => fit_iff (hn n hm)
      case t4 =>
        have hq := hlen
        rw [sheetT, List.length_append, List.length_append] at hq
        rw [strCells_mk, List.nil_append, Lib.byteCells_length]
        exact Nat.le_trans (Nat.le_add_right _ _) hq
      case t5 => exact Nat.le_of_lt (Nat.lt_of_lt_of_le (blk_lt hbb) (Nat.le_trans hb4.size hb5.size))
      rintro e6 w6 ⟨rfl, h6, hb6, hk6⟩
      have hbox6 := hk6 gb _ _ _ hbox5 (by decide) (by rw [hbe.out]; exact Nat.ne_of_lt (blk_lt (blk_below hbox hb2)))
      have v8 : w6.cell? ⟨gb, 8, none⟩ = some (.slice A l.length c) := box_cells hbox6 8 _ rfl
      go_wp2
      have hT6 : ([] ++ Lib.strCells ⟨[115, 104, 101, 101, 116].toArray⟩ : List Value) ++ Lib.byteCells (putT [32] [a0, a1, a2, a3, a4, a5, a6, a7]) = Lib.byteCells (([115, 104, 101, 101, 116] ++ putT [32] [a0, a1, a2, a3, a4, a5, a6, a7]) ++ (l.take (0 : Int).toNat).flatMap stakeT) := by
        rw [strCells_mk, List.nil_append, ← byteCells_app]
        simp
      rw [hT6] at h6
      have hbz : b ≤ w3.heap.size := Nat.le_of_lt (blk_lt hbb)
      have HB6 : Below b w2 w6 := ((((hb3.mono (Nat.le_of_eq hbe.out)).trans hb4).trans (hb5.mono (Nat.le_trans hbz hb4.size))).trans hb6)
      have HW2 : Below w.heap.size w w2 := below_step hb1 hb2
      have hbb6 : b < w6.heap.size := Nat.lt_of_lt_of_le (blk_lt hbb) (Nat.le_trans hb4.size (Nat.le_trans hb5.size hb6.size))
      go_loopg [36] l.length (fun kq v36 w' => ∃ x : Int, v36 = .int .i64 x ∧ 0 ≤ x ∧ x ≤ (l.length : Int) ∧ (kq : Int) = l.length - x ∧ Lib.IsBuilder 144 5 b b (Lib.byteCells (([115, 104, 101, 101, 116] ++ putT [32] [a0, a1, a2, a3, a4, a5, a6, a7]) ++ (l.take x.toNat).flatMap stakeT)) w' ∧ Below b w2 w' ∧ b < w'.heap.size)
      case atStart => exact ⟨0, rfl, by omega, by omega, by omega, h6, HB6, hbb6⟩
      case round =>
        obtain ⟨x, rfl, hx0, hx1, hk, hI1, hbx, hbs⟩ := hrel
        by_cases c3 : x < (l.length : Int)
        · have d3 : decide (x < (l.length : Int)) = true := decide_eq_true c3
          have p0 : 0 ≤ x := hx0
          have hWr : Below w.heap.size w wr := HW2.trans (hbx.mono (by rw [hbe.out]; exact HW2.size))
          obtain ⟨ad, ea, u0, u1, u2, u3, u4⟩ := PF.at_T71 (Kd.C_below hr hWr) x p0 c3
          cases ea
          replace p0 := eq_true p0
          have q0 := eq_true c3
          have hfs := hs _ (rd71_mem hx0 c3)
          simp only [fitS, Bool.and_eq_true] at hfs
          obtain ⟨⟨⟨⟨f0, f1⟩, f2⟩, f3⟩, f4⟩ := hfs
          have htk := take_rd71 hx0 c3
          have hpl := take_len l (x + 1).toNat
          rw [htk, List.flatMap_append, List.length_append] at hpl
          have hps : [rd_T71 l x].flatMap stakeT = putT [32] [(rd_T71 l x).f0] ++ putT [47] [(rd_T71 l x).f1, (rd_T71 l x).f2, (rd_T71 l x).f3, (rd_T71 l x).f4] := by simp [stakeT]
          rw [hps, List.length_append] at hpl
          have hq := hlen
          rw [sheetT, List.length_append] at hq
          have hT8 := tab_B (tab_B (tab_B hT hb1 hl0) hb2 hs1) hbx hbp
          have hB0 := Nat.le_of_lt hbs
          go_wp2_with fail
          have hn7 := two_new wr (.cells #[.int .i64 (rd_T71 l x).f0, .int .i64 (rd_T71 l x).f1, .int .i64 (rd_T71 l x).f2, .int .i64 (rd_T71 l x).f3, .int .i64 (rd_T71 l x).f4] 71) (.cells #[.int .i64 (rd_T71 l x).f0] 3)
          have hb7 : Below wr.heap.size wr ((wr.alloc (.cells #[.int .i64 (rd_T71 l x).f0, .int .i64 (rd_T71 l x).f1, .int .i64 (rd_T71 l x).f2, .int .i64 (rd_T71 l x).f3, .int .i64 (rd_T71 l x).f4] 71)).alloc (.cells #[.int .i64 (rd_T71 l x).f0] 3)) := below_alloc (below_alloc (Below.refl _ _) _) _
          refine (put_calls b b (wr.heap.size + 1) _ [32] 1 [(rd_T71 l x).f0] (0, 0) _ (hT8.below hb7) (isBuilder_below hI1 hb7) hn7.2 (by omega) ?t3 (show 1 ≤ 9223372036854775806 by decide) ?t4 (Nat.le_trans hB0 hb7.size) hbp).mono ?_
          case t3 =>
            intro n hm
            obtain rfl := List.mem_singleton.1 hm
            exact fit_iff f0
          case t4 =>
            rw [Lib.byteCells_length, List.length_append]
            omega
          rintro e8 w8 ⟨rfl, h8, hb8, hk8⟩
          have hst := hk8 _ _ _ _ hn7.1 (by decide) (by omega)
          have s1 : w8.cell? ⟨wr.heap.size, 1, none⟩ = some (.int .i64 (rd_T71 l x).f1) := box_cells hst 1 _ rfl
          have s2 : w8.cell? ⟨wr.heap.size, 2, none⟩ = some (.int .i64 (rd_T71 l x).f2) := box_cells hst 2 _ rfl
          have s3 : w8.cell? ⟨wr.heap.size, 3, none⟩ = some (.int .i64 (rd_T71 l x).f3) := box_cells hst 3 _ rfl
          have s4 : w8.cell? ⟨wr.heap.size, 4, none⟩ = some (.int .i64 (rd_T71 l x).f4) := box_cells hst 4 _ rfl
          rw [← byteCells_app] at h8
          have hbs8 : b < w8.heap.size := Nat.lt_of_lt_of_le hbs (Nat.le_trans hb7.size hb8.size)
          have hT9 := tab_B (hT8.below hb7) hb8 hbp
          go_wp2_with fail
          have hb9 : Below w8.heap.size w8 (w8.alloc (.cells #[.int .i64 (rd_T71 l x).f1, .int .i64 (rd_T71 l x).f2, .int .i64 (rd_T71 l x).f3, .int .i64 (rd_T71 l x).f4] 3)) := below_alloc (Below.refl _ _) _
          refine (put_calls b b w8.heap.size _ [47] 4 [(rd_T71 l x).f1, (rd_T71 l x).f2, (rd_T71 l x).f3, (rd_T71 l x).f4] (0, 0) _ (hT9.below hb9) (isBuilder_below h8 hb9) (blk_new _ _) (by omega) ?r3 (show 4 ≤ 9223372036854775806 by decide) ?r4 (Nat.le_trans (Nat.le_of_lt hbs8) hb9.size) hbp).mono ?_
          case r3 =>
            intro n hm
            simp only [List.mem_cons, List.not_mem_nil, or_false] at hm
            rcases hm with rfl | rfl | rfl | rfl
            · exact fit_iff f1
            · exact fit_iff f2
            · exact fit_iff f3
            · exact fit_iff f4
          case r4 =>
            rw [Lib.byteCells_length, List.length_append, List.length_append]
            omega
          rintro e10 w10 ⟨rfl, h10, hb10, hk10⟩
          rw [← byteCells_app] at h10
          go_wp2
          go_roundg (gk - 1)
          case measure => omega
          case rel =>
            refine ⟨x + 1, rfl, by omega, by omega, by omega, ?_, ?_, ?_⟩
            · rw [htk, List.flatMap_append, hps, ← List.append_assoc, ← List.append_assoc]
              exact h10
            · exact (((hbx.trans (hb7.mono hB0)).trans hb8).trans (hb9.mono (Nat.le_of_lt hbs8))).trans hb10
            · exact Nat.lt_of_lt_of_le hbs8 (Nat.le_trans hb9.size hb10.size)
        · have d3 : decide (x < (l.length : Int)) = false := decide_eq_false c3
          have ex : x.toNat = l.length := by omega
          rw [ex, List.take_length] at hI1
          go_wp2_with fail
          refine (String_calls b b (sheetT a0 a1 a2 a3 a4 a5 a6 a7 l) _ hI1 (by simp [sheetT])).mono ?_
          rintro e8 w8 ⟨rfl, hb8⟩
          go_wp2
          go_ret2
          exact ⟨rfl, (HW2.trans (hbx.mono (by rw [hbe.out]; exact HW2.size))).trans (hb8.mono (by rw [hbe.out]; exact HW2.size))⟩
    · rw [if_neg hf] at h
      cases h
  · rw [if_neg he] at h
    obtain ⟨rfl, rfl⟩ := Prod.mk.inj (Option.some.inj h)
    go_enter Tryd.func68, Tryd.ntmps68
    go_wp2_with (first
      | ((with_reducible refine gate_dst (N := 1) rfl ?_); (try (refine gate_guard (by rfl) ?_; dsimp only)); refine box_event ?hg (N := 1) ?hd (cs := #[.int .i64 a0, .int .i64 a1, .int .i64 a2, .int .i64 a3, .int .i64 a4, .int .i64 a5, .int .i64 a6, .int .i64 a7, .slice A l.length c]) (t := 47) ?hr ?_; (case hd => rfl); (case hg => rfl); (case hr => first | (go_simp; done) | (go_simp; rfl)); intro gb hg w1 hbox hb1; clear hg; have z0 : w1.cell? ⟨gb, 0, none⟩ = some (.int .i64 a0) := box_cells hbox 0 _ rfl; have z1 : w1.cell? ⟨gb, 1, none⟩ = some (.int .i64 a1) := box_cells hbox 1 _ rfl; have z2 : w1.cell? ⟨gb, 2, none⟩ = some (.int .i64 a2) := box_cells hbox 2 _ rfl; have z3 : w1.cell? ⟨gb, 3, none⟩ = some (.int .i64 a3) := box_cells hbox 3 _ rfl; have z4 : w1.cell? ⟨gb, 4, none⟩ = some (.int .i64 a4) := box_cells hbox 4 _ rfl; have z5 : w1.cell? ⟨gb, 5, none⟩ = some (.int .i64 a5) := box_cells hbox 5 _ rfl; have z6 : w1.cell? ⟨gb, 6, none⟩ = some (.int .i64 a6) := box_cells hbox 6 _ rfl; have z7 : w1.cell? ⟨gb, 7, none⟩ = some (.int .i64 a7) := box_cells hbox 7 _ rfl; have z8 : w1.cell? ⟨gb, 8, none⟩ = some (.slice A l.length c) := box_cells hbox 8 _ rfl)
      | (go_at_call 31; refine (course_CheckSheet.calls k a0 a1 a2 a3 a4 a5 a6 a7 A c l e _ (Kd.C_below hr hb1) hc hce).mono ?_; rintro e w2 ⟨rfl, hb2⟩))
    go_ret2
    exact ⟨rfl, below_step hb1 hb2⟩
end Go.Proofs.YtapijkdgkajoeaaDoor.PF
end
section
namespace Go.Proofs.YtapijkdgkajoeaaDoor.PF
open Go.RowKit Go.Proofs.YtapijkdgkajoeaaDoorW.PrintWords Go.Proofs.YtapijkdgkajoeaaDoorW.PrintLast Go.Proofs.YtapijkdgkajoeaaDoorW.PrintMore
attribute [local go_sem] max2_int min2_int max_two min_two
set_option linter.unusedVariables false
set_option linter.unusedSimpArgs false
attribute [local go_sem high] ixA103_1
attribute [local go_sem high] eqA40
def snowlinelaw01_sane.j0 : Nat → List Int → Bool → ByteArray → Bool → Int → Int → Int → Int → Int → Int → Int → Int → Int → Int → Int → Int → Option (Bool)
 | 0, _, _, _, _, _, _, _, _, _, _, _, _, _, _, _, _ => none
 | k + 1, x10, x11, x19, x122, x337000, x337001, x341000, x341001, x352000, x352001, x386000, x386001, x406000, x406001, x426000, x426001 => if x122 = true then (some false) else (if (!(x337000 == (-6)) || (!(x337001 == 7))) = true then (some false) else (if (!(x341000 == (-12)) || (!(x341001 == 12))) = true then (some false) else (if (!(x352000 == 2) || (!(x352001 == 3))) = true then (some false) else (if x11 = true then ((slices_Equal_int_int.f k x10 (([2, 0, 6] : List Int))).bind fun t449 => (if t449 = true then (if (x386000 == 1050 && (x386001 == 1055)) = true then (if (x406000 == 107 && (x406001 == 146)) = true then (if (x426000 == 356 && (x426001 == 485)) = true then (some (x19.toList == ([115, 104, 101, 101, 116, 32, 49, 32, 50, 32, 49, 48, 32, 49, 49, 32, 48, 32, 49, 48, 32, 49, 48, 48, 32, 49, 48, 32, 51, 48, 48, 47, 50, 48, 48, 47, 49, 49, 53, 53, 47, 52, 48, 47, 53] : List UInt8))) else (some false)) else (some false)) else (some false)) else (some false))) else (some false)))))
def snowlinelaw01_sane.f (k : Nat)  : Option (Bool) := (some (([(⟨10, 0, 0, 1⟩ : S26)] : List (S26)) : List (S26))).bind fun y329 => ((course_Drift.f k 0 2 y329 13 0).bind fun bt333 => ((course_Turn.f k 0 2 y329 7 13 0).bind fun bt337 => ((course_AddTest.f k 0 2 y329 13 0 3 3).bind fun bt341 => ((course_Turn.f k bt341.1 bt341.2.1 bt341.2.2.1 10 13 0).bind fun bt348 => ((course_Extend.f k 0 2 ([] : List (S26)) 0 (([1] : List Int)) (([0] : List Int)) (([0, 1, 4] : List Int))).bind fun bt361 => ((snowlinelaw01_example.f).bind fun bt366 => ((snowlinelaw01_sheet.f).bind fun bt371 => ((course_Core.f k bt366.1 bt366.2.1 bt366.2.2 bt371.1 bt371.2.1 bt371.2.2.1 bt371.2.2.2.1 bt371.2.2.2.2.1 bt371.2.2.2.2.2.1 bt371.2.2.2.2.2.2.1 bt371.2.2.2.2.2.2.2.1 bt371.2.2.2.2.2.2.2.2 0 10).bind fun bt382 => ((snowlinelaw01_example.f).bind fun bt386 => ((snowlinelaw01_sheet.f).bind fun bt391 => ((course_Water.f k bt386.1 bt386.2.1 bt386.2.2 bt391.1 bt391.2.1 bt391.2.2.1 bt391.2.2.2.1 bt391.2.2.2.2.1 bt391.2.2.2.2.2.1 bt391.2.2.2.2.2.2.1 bt391.2.2.2.2.2.2.2.1 bt391.2.2.2.2.2.2.2.2 0 10).bind fun bt402 => ((snowlinelaw01_example.f).bind fun bt406 => ((snowlinelaw01_sheet.f).bind fun bt411 => ((course_Density.f k bt406.1 bt406.2.1 bt406.2.2 bt411.1 bt411.2.1 bt411.2.2.1 bt411.2.2.2.1 bt411.2.2.2.2.1 bt411.2.2.2.2.2.1 bt411.2.2.2.2.2.2.1 bt411.2.2.2.2.2.2.2.1 bt411.2.2.2.2.2.2.2.2 0 10).bind fun bt422 => ((snowlinelaw01_sheet.f).bind fun bt426 => ((course_PrintSheet.f k bt426.1 bt426.2.1 bt426.2.2.1 bt426.2.2.2.1 bt426.2.2.2.2.1 bt426.2.2.2.2.2.1 bt426.2.2.2.2.2.2.1 bt426.2.2.2.2.2.2.2.1 bt426.2.2.2.2.2.2.2.2).bind fun bt437 => ((course_AddTest.f k 0 2 y329 12 0 6 7).bind fun bt439 => (if bt333.2.2 = 0 then (if bt337.2.2 = 0 then (if bt341.2.2.2 = 0 then (if bt348.2.2 = 0 then (if bt361.2.2 = 0 then (if bt382.2.2 = 0 then (if bt402.2.2 = 0 then (if bt422.2.2 = 0 then (if bt437.2 = 0 then (snowlinelaw01_sane.j0 k bt361.1 bt361.2.1 bt437.1 (bt439.2.2.2 != 13) bt333.1 bt333.2.1 bt337.1 bt337.2.1 bt348.1 bt348.2.1 bt382.1 bt382.2.1 bt402.1 bt402.2.1 bt422.1 bt422.2.1) else (snowlinelaw01_sane.j0 k bt361.1 bt361.2.1 bt437.1 true bt333.1 bt333.2.1 bt337.1 bt337.2.1 bt348.1 bt348.2.1 bt382.1 bt382.2.1 bt402.1 bt402.2.1 bt422.1 bt422.2.1)) else (snowlinelaw01_sane.j0 k bt361.1 bt361.2.1 bt437.1 true bt333.1 bt333.2.1 bt337.1 bt337.2.1 bt348.1 bt348.2.1 bt382.1 bt382.2.1 bt402.1 bt402.2.1 bt422.1 bt422.2.1)) else (snowlinelaw01_sane.j0 k bt361.1 bt361.2.1 bt437.1 true bt333.1 bt333.2.1 bt337.1 bt337.2.1 bt348.1 bt348.2.1 bt382.1 bt382.2.1 bt402.1 bt402.2.1 bt422.1 bt422.2.1)) else (snowlinelaw01_sane.j0 k bt361.1 bt361.2.1 bt437.1 true bt333.1 bt333.2.1 bt337.1 bt337.2.1 bt348.1 bt348.2.1 bt382.1 bt382.2.1 bt402.1 bt402.2.1 bt422.1 bt422.2.1)) else (snowlinelaw01_sane.j0 k bt361.1 bt361.2.1 bt437.1 true bt333.1 bt333.2.1 bt337.1 bt337.2.1 bt348.1 bt348.2.1 bt382.1 bt382.2.1 bt402.1 bt402.2.1 bt422.1 bt422.2.1)) else (snowlinelaw01_sane.j0 k bt361.1 bt361.2.1 bt437.1 true bt333.1 bt333.2.1 bt337.1 bt337.2.1 bt348.1 bt348.2.1 bt382.1 bt382.2.1 bt402.1 bt402.2.1 bt422.1 bt422.2.1)) else (snowlinelaw01_sane.j0 k bt361.1 bt361.2.1 bt437.1 true bt333.1 bt333.2.1 bt337.1 bt337.2.1 bt348.1 bt348.2.1 bt382.1 bt382.2.1 bt402.1 bt402.2.1 bt422.1 bt422.2.1)) else (snowlinelaw01_sane.j0 k bt361.1 bt361.2.1 bt437.1 true bt333.1 bt333.2.1 bt337.1 bt337.2.1 bt348.1 bt348.2.1 bt382.1 bt382.2.1 bt402.1 bt402.2.1 bt422.1 bt422.2.1)) else (snowlinelaw01_sane.j0 k bt361.1 bt361.2.1 bt437.1 true bt333.1 bt333.2.1 bt337.1 bt337.2.1 bt348.1 bt348.2.1 bt382.1 bt382.2.1 bt402.1 bt402.2.1 bt422.1 bt422.2.1)))))))))))))))))))
theorem snowlinelaw01_sane.mono_l : ∀ k, (∀ y0 y1 y2 y3 y4 y5 y6 y7 y8 y9 y10 y11 y12 y13 y14 y15, LeO (snowlinelaw01_sane.j0 k y0 y1 y2 y3 y4 y5 y6 y7 y8 y9 y10 y11 y12 y13 y14 y15) (snowlinelaw01_sane.j0 (k + 1) y0 y1 y2 y3 y4 y5 y6 y7 y8 y9 y10 y11 y12 y13 y14 y15))
 | 0 => fun _ _ _ _ _ _ _ _ _ _ _ _ _ _ _ _ r h => by simp [snowlinelaw01_sane.j0] at h
 | k + 1 => by
  have ih0 := snowlinelaw01_sane.mono_l k
  ·
   intro y0 y1 y2 y3 y4 y5 y6 y7 y8 y9 y10 y11 y12 y13 y14 y15
   unfold snowlinelaw01_sane.j0
   repeat' first
   | (with_reducible exact ih0 _ _ _ _ _ _ _ _ _ _ _ _ _ _ _ _)
   | (with_reducible exact course_AddTest.mono _ _ _ _ _ _ _ _)
   | (with_reducible exact course_Core.mono _ _ _ _ _ _ _ _ _ _ _ _ _ _ _)
   | (with_reducible exact course_Density.mono _ _ _ _ _ _ _ _ _ _ _ _ _ _ _)
   | (with_reducible exact course_Drift.mono _ _ _ _ _ _)
   | (with_reducible exact course_Extend.mono _ _ _ _ _ _ _ _)
   | (with_reducible exact course_PrintSheet.mono _ _ _ _ _ _ _ _ _ _)
   | (with_reducible exact course_Turn.mono _ _ _ _ _ _ _)
   | (with_reducible exact course_Water.mono _ _ _ _ _ _ _ _ _ _ _ _ _ _ _)
   | (with_reducible exact slices_Equal_int_int.mono _ _ _)
   | (with_reducible exact LeO.refl _)
   | (with_reducible exact LeO.none _)
   | (with_reducible refine LeO.ite ?_ ?_)
   | (with_reducible refine LeO.bind ?_ (fun _ => ?_))
   | exact ih0 _ _ _ _ _ _ _ _ _ _ _ _ _ _ _ _
   | exact course_AddTest.mono _ _ _ _ _ _ _ _
   | exact course_Core.mono _ _ _ _ _ _ _ _ _ _ _ _ _ _ _
   | exact course_Density.mono _ _ _ _ _ _ _ _ _ _ _ _ _ _ _
   | exact course_Drift.mono _ _ _ _ _ _
   | exact course_Extend.mono _ _ _ _ _ _ _ _
   | exact course_PrintSheet.mono _ _ _ _ _ _ _ _ _ _
   | exact course_Turn.mono _ _ _ _ _ _ _
   | exact course_Water.mono _ _ _ _ _ _ _ _ _ _ _ _ _ _ _
   | exact slices_Equal_int_int.mono _ _ _
   | exact LeO.none _
   | refine LeO.ite ?_ ?_
   | refine LeO.bind ?_ (fun _ => ?_)
theorem snowlinelaw01_sane.mono : ∀ k, LeO (snowlinelaw01_sane.f k ) (snowlinelaw01_sane.f (k + 1) ) := by
 intro  k
 have ih0 := snowlinelaw01_sane.mono_l k
 unfold snowlinelaw01_sane.f
 repeat' first
   | (with_reducible exact ih0 _ _ _ _ _ _ _ _ _ _ _ _ _ _ _ _)
   | (with_reducible exact course_AddTest.mono _ _ _ _ _ _ _ _)
   | (with_reducible exact course_Core.mono _ _ _ _ _ _ _ _ _ _ _ _ _ _ _)
   | (with_reducible exact course_Density.mono _ _ _ _ _ _ _ _ _ _ _ _ _ _ _)
   | (with_reducible exact course_Drift.mono _ _ _ _ _ _)
   | (with_reducible exact course_Extend.mono _ _ _ _ _ _ _ _)
   | (with_reducible exact course_PrintSheet.mono _ _ _ _ _ _ _ _ _ _)
   | (with_reducible exact course_Turn.mono _ _ _ _ _ _ _)
   | (with_reducible exact course_Water.mono _ _ _ _ _ _ _ _ _ _ _ _ _ _ _)
   | (with_reducible exact slices_Equal_int_int.mono _ _ _)
   | (with_reducible exact LeO.refl _)
   | (with_reducible exact LeO.none _)
   | (with_reducible refine LeO.ite ?_ ?_)
   | (with_reducible refine LeO.bind ?_ (fun _ => ?_))
   | exact ih0 _ _ _ _ _ _ _ _ _ _ _ _ _ _ _ _
   | exact course_AddTest.mono _ _ _ _ _ _ _ _
   | exact course_Core.mono _ _ _ _ _ _ _ _ _ _ _ _ _ _ _
   | exact course_Density.mono _ _ _ _ _ _ _ _ _ _ _ _ _ _ _
   | exact course_Drift.mono _ _ _ _ _ _
   | exact course_Extend.mono _ _ _ _ _ _ _ _
   | exact course_PrintSheet.mono _ _ _ _ _ _ _ _ _ _
   | exact course_Turn.mono _ _ _ _ _ _ _
   | exact course_Water.mono _ _ _ _ _ _ _ _ _ _ _ _ _ _ _
   | exact slices_Equal_int_int.mono _ _ _
   | exact LeO.none _
   | refine LeO.ite ?_ ?_
   | refine LeO.bind ?_ (fun _ => ?_)
set_option maxHeartbeats 8000000 in
set_option maxRecDepth 100000 in
theorem snowlinelaw01_sane.calls (k : Nat)  (w : World) (hT : TabH w) (h : snowlinelaw01_sane.f k  = some true) :
  Calls Tryd.prog 13 #[] w fun e w' => e = .returned (.bool true) ∧ Below w.heap.size w w' := by
 have hu26 := Tryd.underlying26
 have hu24 := Tryd.underlying24
 have hu40 := Tryd.underlying40
 have HB := Bw.mk (Below.refl w.heap.size w)
 have H : ((some (([(⟨10, 0, 0, 1⟩ : S26)] : List (S26)) : List (S26))).bind fun y329 => ((course_Drift.f k 0 2 y329 13 0).bind fun bt333 => ((course_Turn.f k 0 2 y329 7 13 0).bind fun bt337 => ((course_AddTest.f k 0 2 y329 13 0 3 3).bind fun bt341 => ((course_Turn.f k bt341.1 bt341.2.1 bt341.2.2.1 10 13 0).bind fun bt348 => ((course_Extend.f k 0 2 ([] : List (S26)) 0 (([1] : List Int)) (([0] : List Int)) (([0, 1, 4] : List Int))).bind fun bt361 => ((snowlinelaw01_example.f).bind fun bt366 => ((snowlinelaw01_sheet.f).bind fun bt371 => ((course_Core.f k bt366.1 bt366.2.1 bt366.2.2 bt371.1 bt371.2.1 bt371.2.2.1 bt371.2.2.2.1 bt371.2.2.2.2.1 bt371.2.2.2.2.2.1 bt371.2.2.2.2.2.2.1 bt371.2.2.2.2.2.2.2.1 bt371.2.2.2.2.2.2.2.2 0 10).bind fun bt382 => ((snowlinelaw01_example.f).bind fun bt386 => ((snowlinelaw01_sheet.f).bind fun bt391 => ((course_Water.f k bt386.1 bt386.2.1 bt386.2.2 bt391.1 bt391.2.1 bt391.2.2.1 bt391.2.2.2.1 bt391.2.2.2.2.1 bt391.2.2.2.2.2.1 bt391.2.2.2.2.2.2.1 bt391.2.2.2.2.2.2.2.1 bt391.2.2.2.2.2.2.2.2 0 10).bind fun bt402 => ((snowlinelaw01_example.f).bind fun bt406 => ((snowlinelaw01_sheet.f).bind fun bt411 => ((course_Density.f k bt406.1 bt406.2.1 bt406.2.2 bt411.1 bt411.2.1 bt411.2.2.1 bt411.2.2.2.1 bt411.2.2.2.2.1 bt411.2.2.2.2.2.1 bt411.2.2.2.2.2.2.1 bt411.2.2.2.2.2.2.2.1 bt411.2.2.2.2.2.2.2.2 0 10).bind fun bt422 => ((snowlinelaw01_sheet.f).bind fun bt426 => ((course_PrintSheet.f k bt426.1 bt426.2.1 bt426.2.2.1 bt426.2.2.2.1 bt426.2.2.2.2.1 bt426.2.2.2.2.2.1 bt426.2.2.2.2.2.2.1 bt426.2.2.2.2.2.2.2.1 bt426.2.2.2.2.2.2.2.2).bind fun bt437 => ((course_AddTest.f k 0 2 y329 12 0 6 7).bind fun bt439 => (if bt333.2.2 = 0 then (if bt337.2.2 = 0 then (if bt341.2.2.2 = 0 then (if bt348.2.2 = 0 then (if bt361.2.2 = 0 then (if bt382.2.2 = 0 then (if bt402.2.2 = 0 then (if bt422.2.2 = 0 then (if bt437.2 = 0 then (snowlinelaw01_sane.j0 k bt361.1 bt361.2.1 bt437.1 (bt439.2.2.2 != 13) bt333.1 bt333.2.1 bt337.1 bt337.2.1 bt348.1 bt348.2.1 bt382.1 bt382.2.1 bt402.1 bt402.2.1 bt422.1 bt422.2.1) else (snowlinelaw01_sane.j0 k bt361.1 bt361.2.1 bt437.1 true bt333.1 bt333.2.1 bt337.1 bt337.2.1 bt348.1 bt348.2.1 bt382.1 bt382.2.1 bt402.1 bt402.2.1 bt422.1 bt422.2.1)) else (snowlinelaw01_sane.j0 k bt361.1 bt361.2.1 bt437.1 true bt333.1 bt333.2.1 bt337.1 bt337.2.1 bt348.1 bt348.2.1 bt382.1 bt382.2.1 bt402.1 bt402.2.1 bt422.1 bt422.2.1)) else (snowlinelaw01_sane.j0 k bt361.1 bt361.2.1 bt437.1 true bt333.1 bt333.2.1 bt337.1 bt337.2.1 bt348.1 bt348.2.1 bt382.1 bt382.2.1 bt402.1 bt402.2.1 bt422.1 bt422.2.1)) else (snowlinelaw01_sane.j0 k bt361.1 bt361.2.1 bt437.1 true bt333.1 bt333.2.1 bt337.1 bt337.2.1 bt348.1 bt348.2.1 bt382.1 bt382.2.1 bt402.1 bt402.2.1 bt422.1 bt422.2.1)) else (snowlinelaw01_sane.j0 k bt361.1 bt361.2.1 bt437.1 true bt333.1 bt333.2.1 bt337.1 bt337.2.1 bt348.1 bt348.2.1 bt382.1 bt382.2.1 bt402.1 bt402.2.1 bt422.1 bt422.2.1)) else (snowlinelaw01_sane.j0 k bt361.1 bt361.2.1 bt437.1 true bt333.1 bt333.2.1 bt337.1 bt337.2.1 bt348.1 bt348.2.1 bt382.1 bt382.2.1 bt402.1 bt402.2.1 bt422.1 bt422.2.1)) else (snowlinelaw01_sane.j0 k bt361.1 bt361.2.1 bt437.1 true bt333.1 bt333.2.1 bt337.1 bt337.2.1 bt348.1 bt348.2.1 bt382.1 bt382.2.1 bt402.1 bt402.2.1 bt422.1 bt422.2.1)) else (snowlinelaw01_sane.j0 k bt361.1 bt361.2.1 bt437.1 true bt333.1 bt333.2.1 bt337.1 bt337.2.1 bt348.1 bt348.2.1 bt382.1 bt382.2.1 bt402.1 bt402.2.1 bt422.1 bt422.2.1)) else (snowlinelaw01_sane.j0 k bt361.1 bt361.2.1 bt437.1 true bt333.1 bt333.2.1 bt337.1 bt337.2.1 bt348.1 bt348.2.1 bt382.1 bt382.2.1 bt402.1 bt402.2.1 bt422.1 bt422.2.1)))))))))))))))))))) = some true := h
 clear h
 obtain ⟨y329, hy329⟩ : ∃ y_ : List (S26), y_ = (([(⟨10, 0, 0, 1⟩ : S26)] : List (S26))) := ⟨_, rfl⟩
 replace H : ((course_Drift.f k 0 2 y329 13 0).bind fun bt333 => ((course_Turn.f k 0 2 y329 7 13 0).bind fun bt337 => ((course_AddTest.f k 0 2 y329 13 0 3 3).bind fun bt341 => ((course_Turn.f k bt341.1 bt341.2.1 bt341.2.2.1 10 13 0).bind fun bt348 => ((course_Extend.f k 0 2 ([] : List (S26)) 0 (([1] : List Int)) (([0] : List Int)) (([0, 1, 4] : List Int))).bind fun bt361 => ((snowlinelaw01_example.f).bind fun bt366 => ((snowlinelaw01_sheet.f).bind fun bt371 => ((course_Core.f k bt366.1 bt366.2.1 bt366.2.2 bt371.1 bt371.2.1 bt371.2.2.1 bt371.2.2.2.1 bt371.2.2.2.2.1 bt371.2.2.2.2.2.1 bt371.2.2.2.2.2.2.1 bt371.2.2.2.2.2.2.2.1 bt371.2.2.2.2.2.2.2.2 0 10).bind fun bt382 => ((snowlinelaw01_example.f).bind fun bt386 => ((snowlinelaw01_sheet.f).bind fun bt391 => ((course_Water.f k bt386.1 bt386.2.1 bt386.2.2 bt391.1 bt391.2.1 bt391.2.2.1 bt391.2.2.2.1 bt391.2.2.2.2.1 bt391.2.2.2.2.2.1 bt391.2.2.2.2.2.2.1 bt391.2.2.2.2.2.2.2.1 bt391.2.2.2.2.2.2.2.2 0 10).bind fun bt402 => ((snowlinelaw01_example.f).bind fun bt406 => ((snowlinelaw01_sheet.f).bind fun bt411 => ((course_Density.f k bt406.1 bt406.2.1 bt406.2.2 bt411.1 bt411.2.1 bt411.2.2.1 bt411.2.2.2.1 bt411.2.2.2.2.1 bt411.2.2.2.2.2.1 bt411.2.2.2.2.2.2.1 bt411.2.2.2.2.2.2.2.1 bt411.2.2.2.2.2.2.2.2 0 10).bind fun bt422 => ((snowlinelaw01_sheet.f).bind fun bt426 => ((course_PrintSheet.f k bt426.1 bt426.2.1 bt426.2.2.1 bt426.2.2.2.1 bt426.2.2.2.2.1 bt426.2.2.2.2.2.1 bt426.2.2.2.2.2.2.1 bt426.2.2.2.2.2.2.2.1 bt426.2.2.2.2.2.2.2.2).bind fun bt437 => ((course_AddTest.f k 0 2 y329 12 0 6 7).bind fun bt439 => (if bt333.2.2 = 0 then (if bt337.2.2 = 0 then (if bt341.2.2.2 = 0 then (if bt348.2.2 = 0 then (if bt361.2.2 = 0 then (if bt382.2.2 = 0 then (if bt402.2.2 = 0 then (if bt422.2.2 = 0 then (if bt437.2 = 0 then (snowlinelaw01_sane.j0 k bt361.1 bt361.2.1 bt437.1 (bt439.2.2.2 != 13) bt333.1 bt333.2.1 bt337.1 bt337.2.1 bt348.1 bt348.2.1 bt382.1 bt382.2.1 bt402.1 bt402.2.1 bt422.1 bt422.2.1) else (snowlinelaw01_sane.j0 k bt361.1 bt361.2.1 bt437.1 true bt333.1 bt333.2.1 bt337.1 bt337.2.1 bt348.1 bt348.2.1 bt382.1 bt382.2.1 bt402.1 bt402.2.1 bt422.1 bt422.2.1)) else (snowlinelaw01_sane.j0 k bt361.1 bt361.2.1 bt437.1 true bt333.1 bt333.2.1 bt337.1 bt337.2.1 bt348.1 bt348.2.1 bt382.1 bt382.2.1 bt402.1 bt402.2.1 bt422.1 bt422.2.1)) else (snowlinelaw01_sane.j0 k bt361.1 bt361.2.1 bt437.1 true bt333.1 bt333.2.1 bt337.1 bt337.2.1 bt348.1 bt348.2.1 bt382.1 bt382.2.1 bt402.1 bt402.2.1 bt422.1 bt422.2.1)) else (snowlinelaw01_sane.j0 k bt361.1 bt361.2.1 bt437.1 true bt333.1 bt333.2.1 bt337.1 bt337.2.1 bt348.1 bt348.2.1 bt382.1 bt382.2.1 bt402.1 bt402.2.1 bt422.1 bt422.2.1)) else (snowlinelaw01_sane.j0 k bt361.1 bt361.2.1 bt437.1 true bt333.1 bt333.2.1 bt337.1 bt337.2.1 bt348.1 bt348.2.1 bt382.1 bt382.2.1 bt402.1 bt402.2.1 bt422.1 bt422.2.1)) else (snowlinelaw01_sane.j0 k bt361.1 bt361.2.1 bt437.1 true bt333.1 bt333.2.1 bt337.1 bt337.2.1 bt348.1 bt348.2.1 bt382.1 bt382.2.1 bt402.1 bt402.2.1 bt422.1 bt422.2.1)) else (snowlinelaw01_sane.j0 k bt361.1 bt361.2.1 bt437.1 true bt333.1 bt333.2.1 bt337.1 bt337.2.1 bt348.1 bt348.2.1 bt382.1 bt382.2.1 bt402.1 bt402.2.1 bt422.1 bt422.2.1)) else (snowlinelaw01_sane.j0 k bt361.1 bt361.2.1 bt437.1 true bt333.1 bt333.2.1 bt337.1 bt337.2.1 bt348.1 bt348.2.1 bt382.1 bt382.2.1 bt402.1 bt402.2.1 bt422.1 bt422.2.1)) else (snowlinelaw01_sane.j0 k bt361.1 bt361.2.1 bt437.1 true bt333.1 bt333.2.1 bt337.1 bt337.2.1 bt348.1 bt348.2.1 bt382.1 bt382.2.1 bt402.1 bt402.2.1 bt422.1 bt422.2.1))))))))))))))))))) = some true := by first | (rw [hy329]; with_reducible exact H) | (have H2_ := (Option.bind_some _ _).symm.trans H; rw [hy329]; with_reducible exact H2_) | (have H2_ := (Option.bind_some _ _).symm.trans H; with_reducible exact H2_) | with_reducible exact H | (rw [hy329]; exact H) | exact H
 have Ny329 := Aside0.mk (hy329)
 clear hy329
 replace H := Option.bind_eq_some_iff.mp H
 obtain ⟨⟨t333, t334, t335⟩, A10, H⟩ := H
 have A1 := Aside0.mk (A10)
 clear A10
 replace H := Option.bind_eq_some_iff.mp H
 obtain ⟨⟨t337, t338, t339⟩, A20, H⟩ := H
 have A2 := Aside0.mk (A20)
 clear A20
 replace H := Option.bind_eq_some_iff.mp H
 obtain ⟨⟨t341, t342, t343, t346⟩, A30, H⟩ := H
 have A3 := Aside0.mk (A30)
 clear A30
 replace H := Option.bind_eq_some_iff.mp H
 obtain ⟨⟨t348, t349, t350⟩, A40, H⟩ := H
 have A4 := Aside0.mk (A40)
 clear A40
 obtain ⟨y352, hy352⟩ : ∃ y_ : List Int, y_ = (([1] : List Int)) := ⟨_, rfl⟩
 replace H : ((course_Extend.f k 0 2 ([] : List (S26)) 0 y352 (([0] : List Int)) (([0, 1, 4] : List Int))).bind fun bt361 => ((snowlinelaw01_example.f).bind fun bt366 => ((snowlinelaw01_sheet.f).bind fun bt371 => ((course_Core.f k bt366.1 bt366.2.1 bt366.2.2 bt371.1 bt371.2.1 bt371.2.2.1 bt371.2.2.2.1 bt371.2.2.2.2.1 bt371.2.2.2.2.2.1 bt371.2.2.2.2.2.2.1 bt371.2.2.2.2.2.2.2.1 bt371.2.2.2.2.2.2.2.2 0 10).bind fun bt382 => ((snowlinelaw01_example.f).bind fun bt386 => ((snowlinelaw01_sheet.f).bind fun bt391 => ((course_Water.f k bt386.1 bt386.2.1 bt386.2.2 bt391.1 bt391.2.1 bt391.2.2.1 bt391.2.2.2.1 bt391.2.2.2.2.1 bt391.2.2.2.2.2.1 bt391.2.2.2.2.2.2.1 bt391.2.2.2.2.2.2.2.1 bt391.2.2.2.2.2.2.2.2 0 10).bind fun bt402 => ((snowlinelaw01_example.f).bind fun bt406 => ((snowlinelaw01_sheet.f).bind fun bt411 => ((course_Density.f k bt406.1 bt406.2.1 bt406.2.2 bt411.1 bt411.2.1 bt411.2.2.1 bt411.2.2.2.1 bt411.2.2.2.2.1 bt411.2.2.2.2.2.1 bt411.2.2.2.2.2.2.1 bt411.2.2.2.2.2.2.2.1 bt411.2.2.2.2.2.2.2.2 0 10).bind fun bt422 => ((snowlinelaw01_sheet.f).bind fun bt426 => ((course_PrintSheet.f k bt426.1 bt426.2.1 bt426.2.2.1 bt426.2.2.2.1 bt426.2.2.2.2.1 bt426.2.2.2.2.2.1 bt426.2.2.2.2.2.2.1 bt426.2.2.2.2.2.2.2.1 bt426.2.2.2.2.2.2.2.2).bind fun bt437 => ((course_AddTest.f k 0 2 y329 12 0 6 7).bind fun bt439 => (if t335 = 0 then (if t339 = 0 then (if t346 = 0 then (if t350 = 0 then (if bt361.2.2 = 0 then (if bt382.2.2 = 0 then (if bt402.2.2 = 0 then (if bt422.2.2 = 0 then (if bt437.2 = 0 then (snowlinelaw01_sane.j0 k bt361.1 bt361.2.1 bt437.1 (bt439.2.2.2 != 13) t333 t334 t337 t338 t348 t349 bt382.1 bt382.2.1 bt402.1 bt402.2.1 bt422.1 bt422.2.1) else (snowlinelaw01_sane.j0 k bt361.1 bt361.2.1 bt437.1 true t333 t334 t337 t338 t348 t349 bt382.1 bt382.2.1 bt402.1 bt402.2.1 bt422.1 bt422.2.1)) else (snowlinelaw01_sane.j0 k bt361.1 bt361.2.1 bt437.1 true t333 t334 t337 t338 t348 t349 bt382.1 bt382.2.1 bt402.1 bt402.2.1 bt422.1 bt422.2.1)) else (snowlinelaw01_sane.j0 k bt361.1 bt361.2.1 bt437.1 true t333 t334 t337 t338 t348 t349 bt382.1 bt382.2.1 bt402.1 bt402.2.1 bt422.1 bt422.2.1)) else (snowlinelaw01_sane.j0 k bt361.1 bt361.2.1 bt437.1 true t333 t334 t337 t338 t348 t349 bt382.1 bt382.2.1 bt402.1 bt402.2.1 bt422.1 bt422.2.1)) else (snowlinelaw01_sane.j0 k bt361.1 bt361.2.1 bt437.1 true t333 t334 t337 t338 t348 t349 bt382.1 bt382.2.1 bt402.1 bt402.2.1 bt422.1 bt422.2.1)) else (snowlinelaw01_sane.j0 k bt361.1 bt361.2.1 bt437.1 true t333 t334 t337 t338 t348 t349 bt382.1 bt382.2.1 bt402.1 bt402.2.1 bt422.1 bt422.2.1)) else (snowlinelaw01_sane.j0 k bt361.1 bt361.2.1 bt437.1 true t333 t334 t337 t338 t348 t349 bt382.1 bt382.2.1 bt402.1 bt402.2.1 bt422.1 bt422.2.1)) else (snowlinelaw01_sane.j0 k bt361.1 bt361.2.1 bt437.1 true t333 t334 t337 t338 t348 t349 bt382.1 bt382.2.1 bt402.1 bt402.2.1 bt422.1 bt422.2.1)) else (snowlinelaw01_sane.j0 k bt361.1 bt361.2.1 bt437.1 true t333 t334 t337 t338 t348 t349 bt382.1 bt382.2.1 bt402.1 bt402.2.1 bt422.1 bt422.2.1))))))))))))))) = some true := by first | (rw [hy352]; with_reducible exact H) | (have H2_ := (Option.bind_some _ _).symm.trans H; rw [hy352]; with_reducible exact H2_) | (have H2_ := (Option.bind_some _ _).symm.trans H; with_reducible exact H2_) | with_reducible exact H | (rw [hy352]; exact H) | exact H
 have Ny352 := Aside0.mk (hy352)
 clear hy352
 obtain ⟨y355, hy355⟩ : ∃ y_ : List Int, y_ = (([0] : List Int)) := ⟨_, rfl⟩
 replace H : ((course_Extend.f k 0 2 ([] : List (S26)) 0 y352 y355 (([0, 1, 4] : List Int))).bind fun bt361 => ((snowlinelaw01_example.f).bind fun bt366 => ((snowlinelaw01_sheet.f).bind fun bt371 => ((course_Core.f k bt366.1 bt366.2.1 bt366.2.2 bt371.1 bt371.2.1 bt371.2.2.1 bt371.2.2.2.1 bt371.2.2.2.2.1 bt371.2.2.2.2.2.1 bt371.2.2.2.2.2.2.1 bt371.2.2.2.2.2.2.2.1 bt371.2.2.2.2.2.2.2.2 0 10).bind fun bt382 => ((snowlinelaw01_example.f).bind fun bt386 => ((snowlinelaw01_sheet.f).bind fun bt391 => ((course_Water.f k bt386.1 bt386.2.1 bt386.2.2 bt391.1 bt391.2.1 bt391.2.2.1 bt391.2.2.2.1 bt391.2.2.2.2.1 bt391.2.2.2.2.2.1 bt391.2.2.2.2.2.2.1 bt391.2.2.2.2.2.2.2.1 bt391.2.2.2.2.2.2.2.2 0 10).bind fun bt402 => ((snowlinelaw01_example.f).bind fun bt406 => ((snowlinelaw01_sheet.f).bind fun bt411 => ((course_Density.f k bt406.1 bt406.2.1 bt406.2.2 bt411.1 bt411.2.1 bt411.2.2.1 bt411.2.2.2.1 bt411.2.2.2.2.1 bt411.2.2.2.2.2.1 bt411.2.2.2.2.2.2.1 bt411.2.2.2.2.2.2.2.1 bt411.2.2.2.2.2.2.2.2 0 10).bind fun bt422 => ((snowlinelaw01_sheet.f).bind fun bt426 => ((course_PrintSheet.f k bt426.1 bt426.2.1 bt426.2.2.1 bt426.2.2.2.1 bt426.2.2.2.2.1 bt426.2.2.2.2.2.1 bt426.2.2.2.2.2.2.1 bt426.2.2.2.2.2.2.2.1 bt426.2.2.2.2.2.2.2.2).bind fun bt437 => ((course_AddTest.f k 0 2 y329 12 0 6 7).bind fun bt439 => (if t335 = 0 then (if t339 = 0 then (if t346 = 0 then (if t350 = 0 then (if bt361.2.2 = 0 then (if bt382.2.2 = 0 then (if bt402.2.2 = 0 then (if bt422.2.2 = 0 then (if bt437.2 = 0 then (snowlinelaw01_sane.j0 k bt361.1 bt361.2.1 bt437.1 (bt439.2.2.2 != 13) t333 t334 t337 t338 t348 t349 bt382.1 bt382.2.1 bt402.1 bt402.2.1 bt422.1 bt422.2.1) else (snowlinelaw01_sane.j0 k bt361.1 bt361.2.1 bt437.1 true t333 t334 t337 t338 t348 t349 bt382.1 bt382.2.1 bt402.1 bt402.2.1 bt422.1 bt422.2.1)) else (snowlinelaw01_sane.j0 k bt361.1 bt361.2.1 bt437.1 true t333 t334 t337 t338 t348 t349 bt382.1 bt382.2.1 bt402.1 bt402.2.1 bt422.1 bt422.2.1)) else (snowlinelaw01_sane.j0 k bt361.1 bt361.2.1 bt437.1 true t333 t334 t337 t338 t348 t349 bt382.1 bt382.2.1 bt402.1 bt402.2.1 bt422.1 bt422.2.1)) else (snowlinelaw01_sane.j0 k bt361.1 bt361.2.1 bt437.1 true t333 t334 t337 t338 t348 t349 bt382.1 bt382.2.1 bt402.1 bt402.2.1 bt422.1 bt422.2.1)) else (snowlinelaw01_sane.j0 k bt361.1 bt361.2.1 bt437.1 true t333 t334 t337 t338 t348 t349 bt382.1 bt382.2.1 bt402.1 bt402.2.1 bt422.1 bt422.2.1)) else (snowlinelaw01_sane.j0 k bt361.1 bt361.2.1 bt437.1 true t333 t334 t337 t338 t348 t349 bt382.1 bt382.2.1 bt402.1 bt402.2.1 bt422.1 bt422.2.1)) else (snowlinelaw01_sane.j0 k bt361.1 bt361.2.1 bt437.1 true t333 t334 t337 t338 t348 t349 bt382.1 bt382.2.1 bt402.1 bt402.2.1 bt422.1 bt422.2.1)) else (snowlinelaw01_sane.j0 k bt361.1 bt361.2.1 bt437.1 true t333 t334 t337 t338 t348 t349 bt382.1 bt382.2.1 bt402.1 bt402.2.1 bt422.1 bt422.2.1)) else (snowlinelaw01_sane.j0 k bt361.1 bt361.2.1 bt437.1 true t333 t334 t337 t338 t348 t349 bt382.1 bt382.2.1 bt402.1 bt402.2.1 bt422.1 bt422.2.1))))))))))))))) = some true := by first | (rw [hy355]; with_reducible exact H) | (have H2_ := (Option.bind_some _ _).symm.trans H; rw [hy355]; with_reducible exact H2_) | (have H2_ := (Option.bind_some _ _).symm.trans H; with_reducible exact H2_) | with_reducible exact H | (rw [hy355]; exact H) | exact H
 have Ny355 := Aside0.mk (hy355)
 clear hy355
 obtain ⟨y358, hy358⟩ : ∃ y_ : List Int, y_ = (([0, 1, 4] : List Int)) := ⟨_, rfl⟩
 replace H : ((course_Extend.f k 0 2 ([] : List (S26)) 0 y352 y355 y358).bind fun bt361 => ((snowlinelaw01_example.f).bind fun bt366 => ((snowlinelaw01_sheet.f).bind fun bt371 => ((course_Core.f k bt366.1 bt366.2.1 bt366.2.2 bt371.1 bt371.2.1 bt371.2.2.1 bt371.2.2.2.1 bt371.2.2.2.2.1 bt371.2.2.2.2.2.1 bt371.2.2.2.2.2.2.1 bt371.2.2.2.2.2.2.2.1 bt371.2.2.2.2.2.2.2.2 0 10).bind fun bt382 => ((snowlinelaw01_example.f).bind fun bt386 => ((snowlinelaw01_sheet.f).bind fun bt391 => ((course_Water.f k bt386.1 bt386.2.1 bt386.2.2 bt391.1 bt391.2.1 bt391.2.2.1 bt391.2.2.2.1 bt391.2.2.2.2.1 bt391.2.2.2.2.2.1 bt391.2.2.2.2.2.2.1 bt391.2.2.2.2.2.2.2.1 bt391.2.2.2.2.2.2.2.2 0 10).bind fun bt402 => ((snowlinelaw01_example.f).bind fun bt406 => ((snowlinelaw01_sheet.f).bind fun bt411 => ((course_Density.f k bt406.1 bt406.2.1 bt406.2.2 bt411.1 bt411.2.1 bt411.2.2.1 bt411.2.2.2.1 bt411.2.2.2.2.1 bt411.2.2.2.2.2.1 bt411.2.2.2.2.2.2.1 bt411.2.2.2.2.2.2.2.1 bt411.2.2.2.2.2.2.2.2 0 10).bind fun bt422 => ((snowlinelaw01_sheet.f).bind fun bt426 => ((course_PrintSheet.f k bt426.1 bt426.2.1 bt426.2.2.1 bt426.2.2.2.1 bt426.2.2.2.2.1 bt426.2.2.2.2.2.1 bt426.2.2.2.2.2.2.1 bt426.2.2.2.2.2.2.2.1 bt426.2.2.2.2.2.2.2.2).bind fun bt437 => ((course_AddTest.f k 0 2 y329 12 0 6 7).bind fun bt439 => (if t335 = 0 then (if t339 = 0 then (if t346 = 0 then (if t350 = 0 then (if bt361.2.2 = 0 then (if bt382.2.2 = 0 then (if bt402.2.2 = 0 then (if bt422.2.2 = 0 then (if bt437.2 = 0 then (snowlinelaw01_sane.j0 k bt361.1 bt361.2.1 bt437.1 (bt439.2.2.2 != 13) t333 t334 t337 t338 t348 t349 bt382.1 bt382.2.1 bt402.1 bt402.2.1 bt422.1 bt422.2.1) else (snowlinelaw01_sane.j0 k bt361.1 bt361.2.1 bt437.1 true t333 t334 t337 t338 t348 t349 bt382.1 bt382.2.1 bt402.1 bt402.2.1 bt422.1 bt422.2.1)) else (snowlinelaw01_sane.j0 k bt361.1 bt361.2.1 bt437.1 true t333 t334 t337 t338 t348 t349 bt382.1 bt382.2.1 bt402.1 bt402.2.1 bt422.1 bt422.2.1)) else (snowlinelaw01_sane.j0 k bt361.1 bt361.2.1 bt437.1 true t333 t334 t337 t338 t348 t349 bt382.1 bt382.2.1 bt402.1 bt402.2.1 bt422.1 bt422.2.1)) else (snowlinelaw01_sane.j0 k bt361.1 bt361.2.1 bt437.1 true t333 t334 t337 t338 t348 t349 bt382.1 bt382.2.1 bt402.1 bt402.2.1 bt422.1 bt422.2.1)) else (snowlinelaw01_sane.j0 k bt361.1 bt361.2.1 bt437.1 true t333 t334 t337 t338 t348 t349 bt382.1 bt382.2.1 bt402.1 bt402.2.1 bt422.1 bt422.2.1)) else (snowlinelaw01_sane.j0 k bt361.1 bt361.2.1 bt437.1 true t333 t334 t337 t338 t348 t349 bt382.1 bt382.2.1 bt402.1 bt402.2.1 bt422.1 bt422.2.1)) else (snowlinelaw01_sane.j0 k bt361.1 bt361.2.1 bt437.1 true t333 t334 t337 t338 t348 t349 bt382.1 bt382.2.1 bt402.1 bt402.2.1 bt422.1 bt422.2.1)) else (snowlinelaw01_sane.j0 k bt361.1 bt361.2.1 bt437.1 true t333 t334 t337 t338 t348 t349 bt382.1 bt382.2.1 bt402.1 bt402.2.1 bt422.1 bt422.2.1)) else (snowlinelaw01_sane.j0 k bt361.1 bt361.2.1 bt437.1 true t333 t334 t337 t338 t348 t349 bt382.1 bt382.2.1 bt402.1 bt402.2.1 bt422.1 bt422.2.1))))))))))))))) = some true := by first | (rw [hy358]; with_reducible exact H) | (have H2_ := (Option.bind_some _ _).symm.trans H; rw [hy358]; with_reducible exact H2_) | (have H2_ := (Option.bind_some _ _).symm.trans H; with_reducible exact H2_) | with_reducible exact H | (rw [hy358]; exact H) | exact H
 have Ny358 := Aside0.mk (hy358)
 clear hy358
 replace H := Option.bind_eq_some_iff.mp H
 obtain ⟨⟨t361, t364, t365⟩, A50, H⟩ := H
 have A5 := Aside0.mk (A50)
 clear A50
 replace H := Option.bind_eq_some_iff.mp H
 obtain ⟨⟨t366, t367, t368⟩, A60, H⟩ := H
 have A6 := Aside0.mk (A60)
 clear A60
 replace H := Option.bind_eq_some_iff.mp H
 obtain ⟨⟨t371, t372, t373, t374, t375, t376, t377, t378, t379⟩, A70, H⟩ := H
 have A7 := Aside0.mk (A70)
 clear A70
 replace H := Option.bind_eq_some_iff.mp H
 obtain ⟨⟨t382, t383, t384⟩, A80, H⟩ := H
 have A8 := Aside0.mk (A80)
 clear A80
 replace H := Option.bind_eq_some_iff.mp H
 obtain ⟨⟨t386, t387, t388⟩, A90, H⟩ := H
 have A9 := Aside0.mk (A90)
 clear A90
 replace H := Option.bind_eq_some_iff.mp H
 obtain ⟨⟨t391, t392, t393, t394, t395, t396, t397, t398, t399⟩, A100, H⟩ := H
 have A10 := Aside0.mk (A100)
 clear A100
 replace H := Option.bind_eq_some_iff.mp H
 obtain ⟨⟨t402, t403, t404⟩, A110, H⟩ := H
 have A11 := Aside0.mk (A110)
 clear A110
 replace H := Option.bind_eq_some_iff.mp H
 obtain ⟨⟨t406, t407, t408⟩, A120, H⟩ := H
 have A12 := Aside0.mk (A120)
 clear A120
 replace H := Option.bind_eq_some_iff.mp H
 obtain ⟨⟨t411, t412, t413, t414, t415, t416, t417, t418, t419⟩, A130, H⟩ := H
 have A13 := Aside0.mk (A130)
 clear A130
 replace H := Option.bind_eq_some_iff.mp H
 obtain ⟨⟨t422, t423, t424⟩, A140, H⟩ := H
 have A14 := Aside0.mk (A140)
 clear A140
 replace H := Option.bind_eq_some_iff.mp H
 obtain ⟨⟨t426, t427, t428, t429, t430, t431, t432, t433, t434⟩, A150, H⟩ := H
 have A15 := Aside0.mk (A150)
 clear A150
 replace H := Option.bind_eq_some_iff.mp H
 obtain ⟨⟨t437, t438⟩, A160, H⟩ := H
 have A16 := Aside0.mk (A160)
 clear A160
 replace H := Option.bind_eq_some_iff.mp H
 obtain ⟨⟨t439, t440, t441, t444⟩, A170, H⟩ := H
 have A17 := Aside0.mk (A170)
 clear A170
 have HC18 := Aside0.mk (H)
 clear H
 go_enter Tryd.func13, Tryd.ntmps13
 go_upto_region 12 with (first | ((with_reducible refine gate_dst (N := 24) rfl ?_); (try (refine gate_guard (by rfl) ?_; dsimp only)); refine Kd.R_lit k26 _ 26 ?hg (N := 24) ?hd (xs := ([(⟨10, 0, 0, 1⟩ : S26)] : List (S26))) (inner := [.int .i64 10, .int .i64 0, .int .i64 0, .int .i64 1]) (ok := fun _ => True) (okp := fun _ => True) ?hr ?hp (fun _ hk => hk) trivial (Below.refl _ _) (Nat.le_refl _) (by simp) ?_; (case hd => rfl); (case hg => rfl); (case hr => first | (go_simp; done) | (go_simp; rfl)); (case hp => exact (Reps.c4 (show Kd.M k26 _ _ _ (⟨10, 0, 0, 1⟩ : S26) [.int .i64 10, .int .i64 0, .int .i64 0, .int .i64 1] from (k26_mkM _ _ _ (⟨10, 0, 0, 1⟩ : S26) )) (Reps.none _ _))); intro v330 w19 ho20 hb hg_ hnew_; clear hg_ hnew_; (first | rw [← Ny329.out] at ho20 | (simp only [Int.reduceToNat] at ho20; rw [← Ny329.out] at ho20)); have n0_ := Aside0.mk (Kd.R_lower ho20 (bz w)); replace HB := bS w hb; have HO331 := n0_; clear n0_ hb ho20; obtain ⟨Ao21, co21, eo21⟩ := Kd.R_slice HO331.out; subst eo21) | ((with_reducible refine gate_dst (N := 1) rfl ?_); (try (refine gate_guard (by rfl) ?_; dsimp only)); refine bxE 1 24 #[.int .i64 0, .int .i64 0, .slice none 0 0] (by rfl) (by rfl) (by first | (go_simp; done) | (go_simp; rfl)) ?_; intro gb332 hg w22 hbox hb; have BK332 := Bk.mk (hbox); have GE332 := eB w hg; replace HO331 := rB HO331 hb; replace HB := bS w hb; clear hb hbox hg; obtain ⟨hcz23_0, hcz23_1, hcz23_2, hfz23_0, hfz23_1, hfz23_2⟩ := cz3 BK332) | ((with_reducible refine gate_callee (f := 23) rfl ?_); refine goesLM (some 28) rfl rfl Tryd.func23 (by kernel_rfl) rfl #[.agg #[.int .i64 0, .int .i64 2, .slice Ao21 y329.length co21], .int .i64 13, .int .i64 0] rfl (by rfl) ?_; (with_reducible refine (course_Drift.calls k 0 2 _ _ y329 13 0 t333 t334 t335 _ ?side1 ?side2 A1.out).mono ?_); (case side1 => refine (Kd.R_reads' (e := 26) (base := w.heap.size) (ok := fun k_ => True) (n := y329.length) (c := co21) ?_).2.2; exact (by (with_reducible repeat (first | apply Kd.R_alloc | apply Kd.R_drewN | apply Kd.R_drew)); exact (Kd.R_mono (Kd.R_far (p := ⟨gb332, 2, none⟩) (Kd.R_far (p := ⟨gb332, 1, none⟩) (Kd.R_far (p := ⟨gb332, 0, none⟩) (Kd.R_types HO331.out BK332.out (by decide)) (fun _ hk => hk.2) (.int .i64 0)) (fun _ hk => hk.2) (.int .i64 2)) (fun _ hk => hk.2) (.slice Ao21 y329.length co21)) (fun _ h_ => h_.1)))); (case side2 => exact (Kd.R_reads' HO331.out).2.1); rintro e w24 ⟨rfl, hb⟩; refine ⟨_, rfl, ?_⟩; have n0_ := Aside0.mk (Kd.R_below (by (with_reducible repeat (first | apply Kd.R_alloc | apply Kd.R_drewN | apply Kd.R_drew)); exact (Kd.R_mono (Kd.R_far (p := ⟨gb332, 2, none⟩) (Kd.R_far (p := ⟨gb332, 1, none⟩) (Kd.R_far (p := ⟨gb332, 0, none⟩) (Kd.R_types HO331.out BK332.out (by decide)) (fun _ hk => hk.2) (.int .i64 0)) (fun _ hk => hk.2) (.int .i64 2)) (fun _ hk => hk.2) (.slice Ao21 y329.length co21)) (fun _ h_ => h_.1))) hb); replace BK332 := kBo gb332 (.cells #[.int .i64 0, .int .i64 2, .slice Ao21 y329.length co21] 24 (0, 0)) hb (by rfl); replace HB := bS w hb; clear HO331; have HO331 := n0_; clear n0_; (try clear hb)) | ((with_reducible refine gate_dst (N := 2) rfl ?_); (try (refine gate_guard (by rfl) ?_; dsimp only)); refine bxE 2 40 #[.int .i64 0, .int .i64 0] (by rfl) (by rfl) (by first | (go_simp; done) | (go_simp; rfl)) ?_; intro gb336 hg w25 hbox hb; have BK336 := Bk.mk (hbox); have GE336 := eB w hg; have NB332_336 := nB gb332 hg; replace HO331 := rB HO331 hb; replace BK332 := kB gb332 hb; replace HB := bS w hb; clear hb hbox hg; obtain ⟨hnc26, hnb26⟩ := nn NB332_336; obtain ⟨hcz27_0, hcz27_1, hfz27_0, hfz27_1⟩ := cz2 BK336; obtain ⟨hcz28_0, hcz28_1, hcz28_2, hfz28_0, hfz28_1, hfz28_2⟩ := cz3 BK332) | ((with_reducible refine gate_callee (f := 25) rfl ?_); refine goesLM (some 33) rfl rfl Tryd.func25 (by kernel_rfl) rfl #[.agg #[.int .i64 0, .int .i64 2, .slice Ao21 y329.length co21], .int .i64 7, .int .i64 13, .int .i64 0] rfl (by rfl) ?_; (with_reducible refine (course_Turn.calls k 0 2 _ _ y329 7 13 0 t337 t338 t339 _ ?side1 ?side2 A2.out).mono ?_); (case side1 => refine (Kd.R_reads' (e := 26) (base := w.heap.size) (ok := fun k_ => True) (n := y329.length) (c := co21) ?_).2.2; exact (by (with_reducible repeat (first | apply Kd.R_alloc | apply Kd.R_drewN | apply Kd.R_drew)); exact (Kd.R_mono (Kd.R_far (p := ⟨gb336, 1, none⟩) (Kd.R_far (p := ⟨gb336, 0, none⟩) (Kd.R_types HO331.out BK336.out (by decide)) (fun _ hk => hk.2) (.int .i64 t333)) (fun _ hk => hk.2) (.int .i64 t334)) (fun _ h_ => h_.1)))); (case side2 => exact (Kd.R_reads' HO331.out).2.1); rintro e w29 ⟨rfl, hb⟩; refine ⟨_, rfl, ?_⟩; have n0_ := Aside0.mk (Kd.R_below (by (with_reducible repeat (first | apply Kd.R_alloc | apply Kd.R_drewN | apply Kd.R_drew)); exact (Kd.R_mono (Kd.R_far (p := ⟨gb336, 1, none⟩) (Kd.R_far (p := ⟨gb336, 0, none⟩) (Kd.R_types HO331.out BK336.out (by decide)) (fun _ hk => hk.2) (.int .i64 t333)) (fun _ hk => hk.2) (.int .i64 t334)) (fun _ h_ => h_.1))) hb); replace BK332 := kB gb332 hb; replace BK336 := kBo gb336 (.cells #[.int .i64 t333, .int .i64 t334] 40 (0, 0)) hb (by rfl); replace HB := bS w hb; clear HO331; have HO331 := n0_; clear n0_; (try clear hb)) | ((with_reducible refine gate_dst (N := 4) rfl ?_); (try (refine gate_guard (by rfl) ?_; dsimp only)); refine bxE 4 40 #[.int .i64 0, .int .i64 0] (by rfl) (by rfl) (by first | (go_simp; done) | (go_simp; rfl)) ?_; intro gb340 hg w30 hbox hb; have BK340 := Bk.mk (hbox); have GE340 := eB w hg; have NB332_340 := nB gb332 hg; have NB336_340 := nB gb336 hg; replace HO331 := rB HO331 hb; replace BK332 := kB gb332 hb; replace BK336 := kB gb336 hb; replace HB := bS w hb; clear hb hbox hg; obtain ⟨hnc31, hnb31⟩ := nn NB332_340; obtain ⟨hnc32, hnb32⟩ := nn NB336_340; obtain ⟨hcz33_0, hcz33_1, hfz33_0, hfz33_1⟩ := cz2 BK340; obtain ⟨hcz34_0, hcz34_1, hcz34_2, hfz34_0, hfz34_1, hfz34_2⟩ := cz3 BK332) | ((with_reducible refine gate_callee (f := 16) rfl ?_); refine goesLM (some 39) rfl rfl Tryd.func16 (by kernel_rfl) rfl #[.agg #[.int .i64 0, .int .i64 2, .slice Ao21 y329.length co21], .agg #[.int .i64 13, .int .i64 0, .int .i64 3, .int .i64 3]] rfl (by rfl) ?_; (with_reducible refine (course_AddTest.calls k 0 2 _ _ y329 13 0 3 3 t341 t342 t343 t346 _ ?side1 ?side2 A3.out).mono ?_); (case side1 => refine (Kd.R_reads' (e := 26) (base := w.heap.size) (ok := fun k_ => True) (n := y329.length) (c := co21) ?_).2.2; exact (by (with_reducible repeat (first | apply Kd.R_alloc | apply Kd.R_drewN | apply Kd.R_drew)); exact (Kd.R_mono (Kd.R_far (p := ⟨gb340, 1, none⟩) (Kd.R_far (p := ⟨gb340, 0, none⟩) (Kd.R_types HO331.out BK340.out (by decide)) (fun _ hk => hk.2) (.int .i64 t337)) (fun _ hk => hk.2) (.int .i64 t338)) (fun _ h_ => h_.1)))); (case side2 => exact (Kd.R_reads' HO331.out).2.1); rintro e w35 ⟨v344, rfl, ho0, hb⟩; refine ⟨_, rfl, ?_⟩; have n0_ := Aside0.mk (Kd.R_elder' (by (with_reducible repeat (first | apply Kd.R_alloc | apply Kd.R_drewN | apply Kd.R_drew)); exact (Kd.R_mono (Kd.R_far (p := ⟨gb340, 1, none⟩) (Kd.R_far (p := ⟨gb340, 0, none⟩) (Kd.R_types HO331.out BK340.out (by decide)) (fun _ hk => hk.2) (.int .i64 t337)) (fun _ hk => hk.2) (.int .i64 t338)) (fun _ h_ => h_.1))) (Kd.R_base ho0) hb); have n1_ := Aside0.mk (Kd.R_lower (Kd.R_new' ho0 (Kd.R_lt (by (with_reducible repeat (first | apply Kd.R_alloc | apply Kd.R_drewN | apply Kd.R_drew)); exact (Kd.R_mono (Kd.R_far (p := ⟨gb340, 1, none⟩) (Kd.R_far (p := ⟨gb340, 0, none⟩) (Kd.R_types HO331.out BK340.out (by decide)) (fun _ hk => hk.2) (.int .i64 t337)) (fun _ hk => hk.2) (.int .i64 t338)) (fun _ h_ => h_.1))))) (bz w)); replace BK332 := kB gb332 hb; replace BK336 := kB gb336 hb; replace BK340 := kBo gb340 (.cells #[.int .i64 t337, .int .i64 t338] 40 (0, 0)) hb (by rfl); replace HB := bS w hb; clear HO331; have HO331 := n0_; have HO345 := n1_; clear n0_ n1_; (try clear hb); (try clear ho0)) | ((with_reducible refine gate_dst (N := 6) rfl ?_); (try (refine gate_guard (by rfl) ?_; dsimp only)); refine bxE 6 24 #[.int .i64 0, .int .i64 0, .slice none 0 0] (by rfl) (by rfl) (by first | (go_simp; done) | (go_simp; rfl)) ?_; intro gb347 hg w36 hbox hb; have BK347 := Bk.mk (hbox); have GE347 := eB w hg; have NB332_347 := nB gb332 hg; have NB336_347 := nB gb336 hg; have NB340_347 := nB gb340 hg; replace HO331 := rB HO331 hb; replace HO345 := rB HO345 hb; replace BK332 := kB gb332 hb; replace BK336 := kB gb336 hb; replace BK340 := kB gb340 hb; replace HB := bS w hb; clear hb hbox hg; obtain ⟨hnc37, hnb37⟩ := nn NB332_347; obtain ⟨hnc38, hnb38⟩ := nn NB336_347; obtain ⟨hnc39, hnb39⟩ := nn NB340_347; obtain ⟨hcz40_0, hcz40_1, hcz40_2, hfz40_0, hfz40_1, hfz40_2⟩ := cz3 BK347; obtain ⟨Ao41, co41, eo41⟩ := Kd.R_slice HO345.out; subst eo41) | ((with_reducible refine gate_callee (f := 25) rfl ?_); refine goesLM (some 44) rfl rfl Tryd.func25 (by kernel_rfl) rfl #[.agg #[.int .i64 t341, .int .i64 t342, .slice Ao41 t343.length co41], .int .i64 10, .int .i64 13, .int .i64 0] rfl (by rfl) ?_; (with_reducible refine (course_Turn.calls k t341 t342 _ _ t343 10 13 0 t348 t349 t350 _ ?side1 ?side2 A4.out).mono ?_); (case side1 => refine (Kd.R_reads' (e := 26) (base := w.heap.size) (ok := fun k_ => (True ∧ some k_ ≠ (.slice Ao21 y329.length co21 : Value).ownBlock)) (n := t343.length) (c := co41) ?_).2.2; exact (by (with_reducible repeat (first | apply Kd.R_alloc | apply Kd.R_drewN | apply Kd.R_drew)); exact (Kd.R_mono (Kd.R_far (p := ⟨gb347, 2, none⟩) (Kd.R_far (p := ⟨gb347, 1, none⟩) (Kd.R_far (p := ⟨gb347, 0, none⟩) (Kd.R_types HO345.out BK347.out (by decide)) (fun _ hk => hk.2) (.int .i64 t341)) (fun _ hk => hk.2) (.int .i64 t342)) (fun _ hk => hk.2) (.slice Ao41 t343.length co41)) (fun _ h_ => h_.1)))); (case side2 => exact (Kd.R_reads' HO345.out).2.1); rintro e w42 ⟨rfl, hb⟩; refine ⟨_, rfl, ?_⟩; have n0_ := Aside0.mk (Kd.R_below (by (with_reducible repeat (first | apply Kd.R_alloc | apply Kd.R_drewN | apply Kd.R_drew)); exact (Kd.R_mono (Kd.R_far (p := ⟨gb347, 2, none⟩) (Kd.R_far (p := ⟨gb347, 1, none⟩) (Kd.R_far (p := ⟨gb347, 0, none⟩) (Kd.R_types HO331.out BK347.out (by decide)) (fun _ hk => hk.2) (.int .i64 t341)) (fun _ hk => hk.2) (.int .i64 t342)) (fun _ hk => hk.2) (.slice Ao41 t343.length co41)) (fun _ h_ => h_.1))) hb); have n1_ := Aside0.mk (Kd.R_below (by (with_reducible repeat (first | apply Kd.R_alloc | apply Kd.R_drewN | apply Kd.R_drew)); exact (Kd.R_mono (Kd.R_far (p := ⟨gb347, 2, none⟩) (Kd.R_far (p := ⟨gb347, 1, none⟩) (Kd.R_far (p := ⟨gb347, 0, none⟩) (Kd.R_types HO345.out BK347.out (by decide)) (fun _ hk => hk.2) (.int .i64 t341)) (fun _ hk => hk.2) (.int .i64 t342)) (fun _ hk => hk.2) (.slice Ao41 t343.length co41)) (fun _ h_ => h_.1))) hb); replace BK332 := kB gb332 hb; replace BK336 := kB gb336 hb; replace BK340 := kB gb340 hb; replace BK347 := kBo gb347 (.cells #[.int .i64 t341, .int .i64 t342, .slice Ao41 t343.length co41] 24 (0, 0)) hb (by rfl); replace HB := bS w hb; clear HO331 HO345; have HO331 := n0_; have HO345 := n1_; clear n0_ n1_; (try clear hb)) | ((with_reducible refine gate_dst (N := 8) rfl ?_); (try (refine gate_guard (by rfl) ?_; dsimp only)); refine bxE 8 40 #[.int .i64 0, .int .i64 0] (by rfl) (by rfl) (by first | (go_simp; done) | (go_simp; rfl)) ?_; intro gb351 hg w43 hbox hb; have BK351 := Bk.mk (hbox); have GE351 := eB w hg; have NB332_351 := nB gb332 hg; have NB336_351 := nB gb336 hg; have NB340_351 := nB gb340 hg; have NB347_351 := nB gb347 hg; replace HO331 := rB HO331 hb; replace HO345 := rB HO345 hb; replace BK332 := kB gb332 hb; replace BK336 := kB gb336 hb; replace BK340 := kB gb340 hb; replace BK347 := kB gb347 hb; replace HB := bS w hb; clear hb hbox hg; obtain ⟨hnc44, hnb44⟩ := nn NB332_351; obtain ⟨hnc45, hnb45⟩ := nn NB336_351; obtain ⟨hnc46, hnb46⟩ := nn NB340_351; obtain ⟨hnc47, hnb47⟩ := nn NB347_351; obtain ⟨hcz48_0, hcz48_1, hfz48_0, hfz48_1⟩ := cz2 BK351) | ((with_reducible refine gate_dst (N := 49) rfl ?_); (try (refine gate_guard (by rfl) ?_; dsimp only)); refine Kd.R_lit (Kd.int .i64) _ 3 ?hg (N := 49) ?hd (xs := ([1] : List Int)) (inner := [.int .i64 1]) (ok := fun _ => True) (okp := fun _ => True) ?hr ?hp (fun _ hk => hk) trivial (Below.refl _ _) (Nat.le_refl _) (by simp) ?_; (case hd => rfl); (case hg => rfl); (case hr => first | (go_simp; done) | (go_simp; rfl)); (case hp => exact (Reps.one (show Kd.M (Kd.int .i64) _ _ _ 1 [.int .i64 1] from rfl) (Reps.none _ _))); intro v353 w49 ho50 hb hg_ hnew_; clear hg_ hnew_; (first | rw [← Ny352.out] at ho50 | (simp only [Int.reduceToNat] at ho50; rw [← Ny352.out] at ho50)); have n0_ := Aside0.mk (Kd.R_below (by (with_reducible repeat (first | apply Kd.R_alloc | apply Kd.R_drewN | apply Kd.R_drew)); exact (Kd.R_mono (Kd.R_far (p := ⟨gb351, 1, none⟩) (Kd.R_far (p := ⟨gb351, 0, none⟩) (Kd.R_types HO331.out BK351.out (by decide)) (fun _ hk => hk.2) (.int .i64 t348)) (fun _ hk => hk.2) (.int .i64 t349)) (fun _ h_ => h_.1))) hb); have n1_ := Aside0.mk (Kd.R_below (by (with_reducible repeat (first | apply Kd.R_alloc | apply Kd.R_drewN | apply Kd.R_drew)); exact (Kd.R_mono (Kd.R_far (p := ⟨gb351, 1, none⟩) (Kd.R_far (p := ⟨gb351, 0, none⟩) (Kd.R_types HO345.out BK351.out (by decide)) (fun _ hk => hk.2) (.int .i64 t348)) (fun _ hk => hk.2) (.int .i64 t349)) (fun _ h_ => h_.1))) hb); have n2_ := Aside0.mk (Kd.R_lower ho50 (bz w)); replace BK332 := kB gb332 hb; replace BK336 := kB gb336 hb; replace BK340 := kB gb340 hb; replace BK347 := kB gb347 hb; replace BK351 := kBo gb351 (.cells #[.int .i64 t348, .int .i64 t349] 40 (0, 0)) hb (by rfl); replace HB := bS w hb; clear HO331 HO345; have HO331 := n0_; have HO345 := n1_; have HO354 := n2_; clear n0_ n1_ n2_ hb ho50) | ((with_reducible refine gate_dst (N := 50) rfl ?_); (try (refine gate_guard (by rfl) ?_; dsimp only)); refine Kd.R_lit (Kd.int .i64) _ 3 ?hg (N := 50) ?hd (xs := ([0] : List Int)) (inner := [.int .i64 0]) (ok := fun _ => True) (okp := fun _ => True) ?hr ?hp (fun _ hk => hk) trivial (Below.refl _ _) (Nat.le_refl _) (by simp) ?_; (case hd => rfl); (case hg => rfl); (case hr => first | (go_simp; done) | (go_simp; rfl)); (case hp => exact (Reps.one (show Kd.M (Kd.int .i64) _ _ _ 0 [.int .i64 0] from rfl) (Reps.none _ _))); intro v356 w51 ho52 hb hg_ hnew_; clear hg_ hnew_; (first | rw [← Ny355.out] at ho52 | (simp only [Int.reduceToNat] at ho52; rw [← Ny355.out] at ho52)); have n2_ := Aside0.mk (Kd.R_elder' (by (with_reducible repeat (first | apply Kd.R_alloc | apply Kd.R_drewN | apply Kd.R_drew)); exact HO354.out) (Kd.R_base ho52) hb); have n3_ := Aside0.mk (Kd.R_lower (Kd.R_new' ho52 (Kd.R_lt (by (with_reducible repeat (first | apply Kd.R_alloc | apply Kd.R_drewN | apply Kd.R_drew)); exact HO354.out))) (bz w)); replace HO331 := rB HO331 hb; replace HO345 := rB HO345 hb; replace BK332 := kB gb332 hb; replace BK336 := kB gb336 hb; replace BK340 := kB gb340 hb; replace BK347 := kB gb347 hb; replace BK351 := kB gb351 hb; replace HB := bS w hb; clear HO354; have HO354 := n2_; have HO357 := n3_; clear n2_ n3_ hb ho52) | ((with_reducible refine gate_dst (N := 51) rfl ?_); (try (refine gate_guard (by rfl) ?_; dsimp only)); refine Kd.R_lit (Kd.int .i64) _ 3 ?hg (N := 51) ?hd (xs := ([0, 1, 4] : List Int)) (inner := [.int .i64 0, .int .i64 1, .int .i64 4]) (ok := fun _ => True) (okp := fun _ => True) ?hr ?hp (fun _ hk => hk) trivial (Below.refl _ _) (Nat.le_refl _) (by simp) ?_; (case hd => rfl); (case hg => rfl); (case hr => first | (go_simp; done) | (go_simp; rfl)); (case hp => exact (Reps.one (show Kd.M (Kd.int .i64) _ _ _ 0 [.int .i64 0] from rfl) (Reps.one (show Kd.M (Kd.int .i64) _ _ _ 1 [.int .i64 1] from rfl) (Reps.one (show Kd.M (Kd.int .i64) _ _ _ 4 [.int .i64 4] from rfl) (Reps.none _ _))))); intro v359 w53 ho54 hb hg_ hnew_; clear hg_ hnew_; (first | rw [← Ny358.out] at ho54 | (simp only [Int.reduceToNat] at ho54; rw [← Ny358.out] at ho54)); have n2_ := Aside0.mk (Kd.R_elder' (by (with_reducible repeat (first | apply Kd.R_alloc | apply Kd.R_drewN | apply Kd.R_drew)); exact HO354.out) (Kd.R_base ho54) hb); have n3_ := Aside0.mk (Kd.R_elder' (by (with_reducible repeat (first | apply Kd.R_alloc | apply Kd.R_drewN | apply Kd.R_drew)); exact HO357.out) (Kd.R_base ho54) hb); have n4_ := Aside0.mk (Kd.R_lower (Kd.R_new' (Kd.R_new' ho54 (Kd.R_lt (by (with_reducible repeat (first | apply Kd.R_alloc | apply Kd.R_drewN | apply Kd.R_drew)); exact HO354.out))) (Kd.R_lt (by (with_reducible repeat (first | apply Kd.R_alloc | apply Kd.R_drewN | apply Kd.R_drew)); exact HO357.out))) (bz w)); replace HO331 := rB HO331 hb; replace HO345 := rB HO345 hb; replace BK332 := kB gb332 hb; replace BK336 := kB gb336 hb; replace BK340 := kB gb340 hb; replace BK347 := kB gb347 hb; replace BK351 := kB gb351 hb; replace HB := bS w hb; clear HO354 HO357; have HO354 := n2_; have HO357 := n3_; have HO360 := n4_; clear n2_ n3_ n4_ hb ho54; obtain ⟨Ao55, co55, eo55⟩ := Kd.R_slice HO354.out; subst eo55; obtain ⟨Ao56, co56, eo56⟩ := Kd.R_slice HO357.out; subst eo56; obtain ⟨Ao57, co57, eo57⟩ := Kd.R_slice HO360.out; subst eo57) | ((with_reducible refine gate_callee (f := 35) rfl ?_); refine goesLM (some 52) rfl rfl Tryd.func35 (by kernel_rfl) rfl #[.agg #[.int .i64 0, .int .i64 2, .slice none 0 0], .int .i64 0, .slice Ao55 y352.length co55, .slice Ao56 y355.length co56, .slice Ao57 y358.length co57] rfl (by rfl) ?_; (refine (course_Extend.calls k 0 2 _ _ ([] : List (S26)) 0 _ _ y352 _ _ y355 _ _ y358 t361 t364 t365 _ ?side1 ?side2 ?side3 ?side4 ?side5 ?side6 ?side7 ?side8 A5.out).mono ?_); (case side1 => exact Kd.C_nil _ _); (case side2 => exact Nat.le_refl _); (case side3 => exact cP (Kd.R_reads' HO354.out).2.2); (case side4 => exact (Kd.R_reads' HO354.out).2.1); (case side5 => exact cP (Kd.R_reads' HO357.out).2.2); (case side6 => exact (Kd.R_reads' HO357.out).2.1); (case side7 => exact cP (Kd.R_reads' HO360.out).2.2); (case side8 => exact (Kd.R_reads' HO360.out).2.1); rintro e w58 ⟨v362, rfl, ho0, hb⟩; refine ⟨_, rfl, ?_⟩; have n2_ := Aside0.mk (Kd.R_elder' (by (with_reducible repeat (first | apply Kd.R_alloc | apply Kd.R_drewN | apply Kd.R_drew)); exact HO354.out) (Kd.R_base ho0) hb); have n3_ := Aside0.mk (Kd.R_elder' (by (with_reducible repeat (first | apply Kd.R_alloc | apply Kd.R_drewN | apply Kd.R_drew)); exact HO357.out) (Kd.R_base ho0) hb); have n4_ := Aside0.mk (Kd.R_elder' (by (with_reducible repeat (first | apply Kd.R_alloc | apply Kd.R_drewN | apply Kd.R_drew)); exact HO360.out) (Kd.R_base ho0) hb); have n5_ := Aside0.mk (Kd.R_lower (Kd.R_new' (Kd.R_new' (Kd.R_new' ho0 (Kd.R_lt (by (with_reducible repeat (first | apply Kd.R_alloc | apply Kd.R_drewN | apply Kd.R_drew)); exact HO354.out))) (Kd.R_lt (by (with_reducible repeat (first | apply Kd.R_alloc | apply Kd.R_drewN | apply Kd.R_drew)); exact HO357.out))) (Kd.R_lt (by (with_reducible repeat (first | apply Kd.R_alloc | apply Kd.R_drewN | apply Kd.R_drew)); exact HO360.out))) (bz w)); replace HO331 := rB HO331 hb; replace HO345 := rB HO345 hb; replace BK332 := kB gb332 hb; replace BK336 := kB gb336 hb; replace BK340 := kB gb340 hb; replace BK347 := kB gb347 hb; replace BK351 := kB gb351 hb; replace HB := bS w hb; clear HO354 HO357 HO360; have HO354 := n2_; have HO357 := n3_; have HO360 := n4_; have HO363 := n5_; clear n2_ n3_ n4_ n5_; (try clear hb); (try clear ho0)) | ((with_reducible refine gate_callee (f := 66) rfl ?_); refine goesLM (some 57) rfl rfl Tryd.func66 (by kernel_rfl) rfl #[] rfl (by rfl) ?_; (with_reducible refine (snowlinelaw01_example.calls  t366 t367 t368 _ A6.out).mono ?_); rintro e w59 ⟨v369, rfl, ho0, hb⟩; refine ⟨_, rfl, ?_⟩; have n0_ := Aside0.mk (Kd.R_elder' (by (with_reducible repeat (first | apply Kd.R_alloc | apply Kd.R_drewN | apply Kd.R_drew)); exact HO331.out) (Kd.R_base ho0) hb); have n1_ := Aside0.mk (Kd.R_elder' (by (with_reducible repeat (first | apply Kd.R_alloc | apply Kd.R_drewN | apply Kd.R_drew)); exact HO345.out) (Kd.R_base ho0) hb); have n6_ := Aside0.mk (Kd.R_lower (Kd.R_new' (Kd.R_new' ho0 (Kd.R_lt (by (with_reducible repeat (first | apply Kd.R_alloc | apply Kd.R_drewN | apply Kd.R_drew)); exact HO331.out))) (Kd.R_lt (by (with_reducible repeat (first | apply Kd.R_alloc | apply Kd.R_drewN | apply Kd.R_drew)); exact HO345.out))) (bz w)); replace HO354 := rB HO354 hb; replace HO357 := rB HO357 hb; replace HO360 := rB HO360 hb; replace HO363 := rB HO363 hb; replace BK332 := kB gb332 hb; replace BK336 := kB gb336 hb; replace BK340 := kB gb340 hb; replace BK347 := kB gb347 hb; replace BK351 := kB gb351 hb; replace HB := bS w hb; clear HO331 HO345; have HO331 := n0_; have HO345 := n1_; have HO370 := n6_; clear n0_ n1_ n6_; (try clear hb); (try clear ho0)) | ((with_reducible refine gate_callee (f := 67) rfl ?_); refine goesLM (some 58) rfl rfl Tryd.func67 (by kernel_rfl) rfl #[] rfl (by rfl) ?_; (with_reducible refine (snowlinelaw01_sheet.calls  t371 t372 t373 t374 t375 t376 t377 t378 t379 _ A7.out).mono ?_); rintro e w60 ⟨v380, rfl, ho0, hb⟩; refine ⟨_, rfl, ?_⟩; have n7_ := Aside0.mk (Kd.R_lower ho0 (bz w)); replace HO331 := rB HO331 hb; replace HO345 := rB HO345 hb; replace HO354 := rB HO354 hb; replace HO357 := rB HO357 hb; replace HO360 := rB HO360 hb; replace HO363 := rB HO363 hb; replace HO370 := rB HO370 hb; replace BK332 := kB gb332 hb; replace BK336 := kB gb336 hb; replace BK340 := kB gb340 hb; replace BK347 := kB gb347 hb; replace BK351 := kB gb351 hb; replace HB := bS w hb; have HO381 := n7_; clear n7_; (try clear hb); (try clear ho0); obtain ⟨Ao61, co61, eo61⟩ := Kd.R_slice HO370.out; subst eo61; obtain ⟨Ao62, co62, eo62⟩ := Kd.R_slice HO381.out; subst eo62) | ((with_reducible refine gate_callee (f := 27) rfl ?_); refine goesLM (some 59) rfl rfl Tryd.func27 (by kernel_rfl) rfl #[.agg #[.int .i64 t366, .int .i64 t367, .slice Ao61 t368.length co61], .agg #[.int .i64 t371, .int .i64 t372, .int .i64 t373, .int .i64 t374, .int .i64 t375, .int .i64 t376, .int .i64 t377, .int .i64 t378, .slice Ao62 t379.length co62], .int .i64 0, .int .i64 10] rfl (by rfl) ?_; (with_reducible refine (course_Core.calls k t366 t367 _ _ t368 t371 t372 t373 t374 t375 t376 t377 t378 _ _ t379 0 10 t382 t383 t384 _ ?side1 ?side2 ?side3 ?side4 A8.out).mono ?_); (case side1 => exact cP (Kd.R_reads' HO370.out).2.2); (case side2 => exact (Kd.R_reads' HO370.out).2.1); (case side3 => exact cP (Kd.R_reads' HO381.out).2.2); (case side4 => exact (Kd.R_reads' HO381.out).2.1); rintro e w63 ⟨rfl, hb⟩; refine ⟨_, rfl, ?_⟩; replace HO331 := rB HO331 hb; replace HO345 := rB HO345 hb; replace HO354 := rB HO354 hb; replace HO357 := rB HO357 hb; replace HO360 := rB HO360 hb; replace HO363 := rB HO363 hb; replace HO370 := rB HO370 hb; replace HO381 := rB HO381 hb; replace BK332 := kB gb332 hb; replace BK336 := kB gb336 hb; replace BK340 := kB gb340 hb; replace BK347 := kB gb347 hb; replace BK351 := kB gb351 hb; replace HB := bS w hb; (try clear hb)) | ((with_reducible refine gate_dst (N := 13) rfl ?_); (try (refine gate_guard (by rfl) ?_; dsimp only)); refine bxE 13 40 #[.int .i64 0, .int .i64 0] (by rfl) (by rfl) (by first | (go_simp; done) | (go_simp; rfl)) ?_; intro gb385 hg w64 hbox hb; have BK385 := Bk.mk (hbox); have GE385 := eB w hg; have NB332_385 := nB gb332 hg; have NB336_385 := nB gb336 hg; have NB340_385 := nB gb340 hg; have NB347_385 := nB gb347 hg; have NB351_385 := nB gb351 hg; replace HO331 := rB HO331 hb; replace HO345 := rB HO345 hb; replace HO354 := rB HO354 hb; replace HO357 := rB HO357 hb; replace HO360 := rB HO360 hb; replace HO363 := rB HO363 hb; replace HO370 := rB HO370 hb; replace HO381 := rB HO381 hb; replace BK332 := kB gb332 hb; replace BK336 := kB gb336 hb; replace BK340 := kB gb340 hb; replace BK347 := kB gb347 hb; replace BK351 := kB gb351 hb; replace HB := bS w hb; clear hb hbox hg; obtain ⟨hnc65, hnb65⟩ := nn NB332_385; obtain ⟨hnc66, hnb66⟩ := nn NB336_385; obtain ⟨hnc67, hnb67⟩ := nn NB340_385; obtain ⟨hnc68, hnb68⟩ := nn NB347_385; obtain ⟨hnc69, hnb69⟩ := nn NB351_385; obtain ⟨hcz70_0, hcz70_1, hfz70_0, hfz70_1⟩ := cz2 BK385) | ((with_reducible refine gate_callee (f := 66) rfl ?_); refine goesLM (some 63) rfl rfl Tryd.func66 (by kernel_rfl) rfl #[] rfl (by rfl) ?_; (with_reducible refine (snowlinelaw01_example.calls  t386 t387 t388 _ A9.out).mono ?_); rintro e w71 ⟨v389, rfl, ho0, hb⟩; refine ⟨_, rfl, ?_⟩; have n0_ := Aside0.mk (Kd.R_elder' (by (with_reducible repeat (first | apply Kd.R_alloc | apply Kd.R_drewN | apply Kd.R_drew)); exact (Kd.R_mono (Kd.R_far (p := ⟨gb385, 1, none⟩) (Kd.R_far (p := ⟨gb385, 0, none⟩) (Kd.R_types HO331.out BK385.out (by decide)) (fun _ hk => hk.2) (.int .i64 t382)) (fun _ hk => hk.2) (.int .i64 t383)) (fun _ h_ => h_.1))) (Kd.R_base ho0) hb); have n1_ := Aside0.mk (Kd.R_elder' (by (with_reducible repeat (first | apply Kd.R_alloc | apply Kd.R_drewN | apply Kd.R_drew)); exact (Kd.R_mono (Kd.R_far (p := ⟨gb385, 1, none⟩) (Kd.R_far (p := ⟨gb385, 0, none⟩) (Kd.R_types HO345.out BK385.out (by decide)) (fun _ hk => hk.2) (.int .i64 t382)) (fun _ hk => hk.2) (.int .i64 t383)) (fun _ h_ => h_.1))) (Kd.R_base ho0) hb); have n2_ := Aside0.mk (Kd.R_below (by (with_reducible repeat (first | apply Kd.R_alloc | apply Kd.R_drewN | apply Kd.R_drew)); exact (Kd.R_mono (Kd.R_far (p := ⟨gb385, 1, none⟩) (Kd.R_far (p := ⟨gb385, 0, none⟩) (Kd.R_types HO354.out BK385.out (by decide)) (fun _ hk => hk.2) (.int .i64 t382)) (fun _ hk => hk.2) (.int .i64 t383)) (fun _ h_ => h_.1))) hb); have n3_ := Aside0.mk (Kd.R_below (by (with_reducible repeat (first | apply Kd.R_alloc | apply Kd.R_drewN | apply Kd.R_drew)); exact (Kd.R_mono (Kd.R_far (p := ⟨gb385, 1, none⟩) (Kd.R_far (p := ⟨gb385, 0, none⟩) (Kd.R_types HO357.out BK385.out (by decide)) (fun _ hk => hk.2) (.int .i64 t382)) (fun _ hk => hk.2) (.int .i64 t383)) (fun _ h_ => h_.1))) hb); have n4_ := Aside0.mk (Kd.R_below (by (with_reducible repeat (first | apply Kd.R_alloc | apply Kd.R_drewN | apply Kd.R_drew)); exact (Kd.R_mono (Kd.R_far (p := ⟨gb385, 1, none⟩) (Kd.R_far (p := ⟨gb385, 0, none⟩) (Kd.R_types HO360.out BK385.out (by decide)) (fun _ hk => hk.2) (.int .i64 t382)) (fun _ hk => hk.2) (.int .i64 t383)) (fun _ h_ => h_.1))) hb); have n5_ := Aside0.mk (Kd.R_below (by (with_reducible repeat (first | apply Kd.R_alloc | apply Kd.R_drewN | apply Kd.R_drew)); exact (Kd.R_mono (Kd.R_far (p := ⟨gb385, 1, none⟩) (Kd.R_far (p := ⟨gb385, 0, none⟩) (Kd.R_types HO363.out BK385.out (by decide)) (fun _ hk => hk.2) (.int .i64 t382)) (fun _ hk => hk.2) (.int .i64 t383)) (fun _ h_ => h_.1))) hb); have n6_ := Aside0.mk (Kd.R_elder' (by (with_reducible repeat (first | apply Kd.R_alloc | apply Kd.R_drewN | apply Kd.R_drew)); exact (Kd.R_mono (Kd.R_far (p := ⟨gb385, 1, none⟩) (Kd.R_far (p := ⟨gb385, 0, none⟩) (Kd.R_types HO370.out BK385.out (by decide)) (fun _ hk => hk.2) (.int .i64 t382)) (fun _ hk => hk.2) (.int .i64 t383)) (fun _ h_ => h_.1))) (Kd.R_base ho0) hb); have n7_ := Aside0.mk (Kd.R_below (by (with_reducible repeat (first | apply Kd.R_alloc | apply Kd.R_drewN | apply Kd.R_drew)); exact (Kd.R_mono (Kd.R_far (p := ⟨gb385, 1, none⟩) (Kd.R_far (p := ⟨gb385, 0, none⟩) (Kd.R_types HO381.out BK385.out (by decide)) (fun _ hk => hk.2) (.int .i64 t382)) (fun _ hk => hk.2) (.int .i64 t383)) (fun _ h_ => h_.1))) hb); have n8_ := Aside0.mk (Kd.R_lower (Kd.R_new' (Kd.R_new' (Kd.R_new' ho0 (Kd.R_lt (by (with_reducible repeat (first | apply Kd.R_alloc | apply Kd.R_drewN | apply Kd.R_drew)); exact (Kd.R_mono (Kd.R_far (p := ⟨gb385, 1, none⟩) (Kd.R_far (p := ⟨gb385, 0, none⟩) (Kd.R_types HO331.out BK385.out (by decide)) (fun _ hk => hk.2) (.int .i64 t382)) (fun _ hk => hk.2) (.int .i64 t383)) (fun _ h_ => h_.1))))) (Kd.R_lt (by (with_reducible repeat (first | apply Kd.R_alloc | apply Kd.R_drewN | apply Kd.R_drew)); exact (Kd.R_mono (Kd.R_far (p := ⟨gb385, 1, none⟩) (Kd.R_far (p := ⟨gb385, 0, none⟩) (Kd.R_types HO345.out BK385.out (by decide)) (fun _ hk => hk.2) (.int .i64 t382)) (fun _ hk => hk.2) (.int .i64 t383)) (fun _ h_ => h_.1))))) (Kd.R_lt (by (with_reducible repeat (first | apply Kd.R_alloc | apply Kd.R_drewN | apply Kd.R_drew)); exact (Kd.R_mono (Kd.R_far (p := ⟨gb385, 1, none⟩) (Kd.R_far (p := ⟨gb385, 0, none⟩) (Kd.R_types HO370.out BK385.out (by decide)) (fun _ hk => hk.2) (.int .i64 t382)) (fun _ hk => hk.2) (.int .i64 t383)) (fun _ h_ => h_.1))))) (bz w)); replace BK332 := kB gb332 hb; replace BK336 := kB gb336 hb; replace BK340 := kB gb340 hb; replace BK347 := kB gb347 hb; replace BK351 := kB gb351 hb; replace BK385 := kBo gb385 (.cells #[.int .i64 t382, .int .i64 t383] 40 (0, 0)) hb (by rfl); replace HB := bS w hb; clear HO331 HO345 HO354 HO357 HO360 HO363 HO370 HO381; have HO331 := n0_; have HO345 := n1_; have HO354 := n2_; have HO357 := n3_; have HO360 := n4_; have HO363 := n5_; have HO370 := n6_; have HO381 := n7_; have HO390 := n8_; clear n0_ n1_ n2_ n3_ n4_ n5_ n6_ n7_ n8_; (try clear hb); (try clear ho0)) | ((with_reducible refine gate_callee (f := 67) rfl ?_); refine goesLM (some 64) rfl rfl Tryd.func67 (by kernel_rfl) rfl #[] rfl (by rfl) ?_; (with_reducible refine (snowlinelaw01_sheet.calls  t391 t392 t393 t394 t395 t396 t397 t398 t399 _ A10.out).mono ?_); rintro e w72 ⟨v400, rfl, ho0, hb⟩; refine ⟨_, rfl, ?_⟩; have n7_ := Aside0.mk (Kd.R_elder' (by (with_reducible repeat (first | apply Kd.R_alloc | apply Kd.R_drewN | apply Kd.R_drew)); exact HO381.out) (Kd.R_base ho0) hb); have n9_ := Aside0.mk (Kd.R_lower (Kd.R_new' ho0 (Kd.R_lt (by (with_reducible repeat (first | apply Kd.R_alloc | apply Kd.R_drewN | apply Kd.R_drew)); exact HO381.out))) (bz w)); replace HO331 := rB HO331 hb; replace HO345 := rB HO345 hb; replace HO354 := rB HO354 hb; replace HO357 := rB HO357 hb; replace HO360 := rB HO360 hb; replace HO363 := rB HO363 hb; replace HO370 := rB HO370 hb; replace HO390 := rB HO390 hb; replace BK332 := kB gb332 hb; replace BK336 := kB gb336 hb; replace BK340 := kB gb340 hb; replace BK347 := kB gb347 hb; replace BK351 := kB gb351 hb; replace BK385 := kB gb385 hb; replace HB := bS w hb; clear HO381; have HO381 := n7_; have HO401 := n9_; clear n7_ n9_; (try clear hb); (try clear ho0); obtain ⟨Ao73, co73, eo73⟩ := Kd.R_slice HO390.out; subst eo73; obtain ⟨Ao74, co74, eo74⟩ := Kd.R_slice HO401.out; subst eo74) | ((with_reducible refine gate_callee (f := 29) rfl ?_); refine goesLM (some 65) rfl rfl Tryd.func29 (by kernel_rfl) rfl #[.agg #[.int .i64 t386, .int .i64 t387, .slice Ao73 t388.length co73], .agg #[.int .i64 t391, .int .i64 t392, .int .i64 t393, .int .i64 t394, .int .i64 t395, .int .i64 t396, .int .i64 t397, .int .i64 t398, .slice Ao74 t399.length co74], .int .i64 0, .int .i64 10] rfl (by rfl) ?_; (with_reducible refine (course_Water.calls k t386 t387 _ _ t388 t391 t392 t393 t394 t395 t396 t397 t398 _ _ t399 0 10 t402 t403 t404 _ ?side1 ?side2 ?side3 ?side4 A11.out).mono ?_); (case side1 => exact cP (Kd.R_reads' HO390.out).2.2); (case side2 => exact (Kd.R_reads' HO390.out).2.1); (case side3 => exact cP (Kd.R_reads' HO401.out).2.2); (case side4 => exact (Kd.R_reads' HO401.out).2.1); rintro e w75 ⟨rfl, hb⟩; refine ⟨_, rfl, ?_⟩; replace HO331 := rB HO331 hb; replace HO345 := rB HO345 hb; replace HO354 := rB HO354 hb; replace HO357 := rB HO357 hb; replace HO360 := rB HO360 hb; replace HO363 := rB HO363 hb; replace HO370 := rB HO370 hb; replace HO381 := rB HO381 hb; replace HO390 := rB HO390 hb; replace HO401 := rB HO401 hb; replace BK332 := kB gb332 hb; replace BK336 := kB gb336 hb; replace BK340 := kB gb340 hb; replace BK347 := kB gb347 hb; replace BK351 := kB gb351 hb; replace BK385 := kB gb385 hb; replace HB := bS w hb; (try clear hb)) | ((with_reducible refine gate_dst (N := 15) rfl ?_); (try (refine gate_guard (by rfl) ?_; dsimp only)); refine bxE 15 40 #[.int .i64 0, .int .i64 0] (by rfl) (by rfl) (by first | (go_simp; done) | (go_simp; rfl)) ?_; intro gb405 hg w76 hbox hb; have BK405 := Bk.mk (hbox); have GE405 := eB w hg; have NB332_405 := nB gb332 hg; have NB336_405 := nB gb336 hg; have NB340_405 := nB gb340 hg; have NB347_405 := nB gb347 hg; have NB351_405 := nB gb351 hg; have NB385_405 := nB gb385 hg; replace HO331 := rB HO331 hb; replace HO345 := rB HO345 hb; replace HO354 := rB HO354 hb; replace HO357 := rB HO357 hb; replace HO360 := rB HO360 hb; replace HO363 := rB HO363 hb; replace HO370 := rB HO370 hb; replace HO381 := rB HO381 hb; replace HO390 := rB HO390 hb; replace HO401 := rB HO401 hb; replace BK332 := kB gb332 hb; replace BK336 := kB gb336 hb; replace BK340 := kB gb340 hb; replace BK347 := kB gb347 hb; replace BK351 := kB gb351 hb; replace BK385 := kB gb385 hb; replace HB := bS w hb; clear hb hbox hg; obtain ⟨hnc77, hnb77⟩ := nn NB332_405; obtain ⟨hnc78, hnb78⟩ := nn NB336_405; obtain ⟨hnc79, hnb79⟩ := nn NB340_405; obtain ⟨hnc80, hnb80⟩ := nn NB347_405; obtain ⟨hnc81, hnb81⟩ := nn NB351_405; obtain ⟨hnc82, hnb82⟩ := nn NB385_405; obtain ⟨hcz83_0, hcz83_1, hfz83_0, hfz83_1⟩ := cz2 BK405) | ((with_reducible refine gate_callee (f := 66) rfl ?_); refine goesLM (some 69) rfl rfl Tryd.func66 (by kernel_rfl) rfl #[] rfl (by rfl) ?_; (with_reducible refine (snowlinelaw01_example.calls  t406 t407 t408 _ A12.out).mono ?_); rintro e w84 ⟨v409, rfl, ho0, hb⟩; refine ⟨_, rfl, ?_⟩; have n0_ := Aside0.mk (Kd.R_elder' (by (with_reducible repeat (first | apply Kd.R_alloc | apply Kd.R_drewN | apply Kd.R_drew)); exact (Kd.R_mono (Kd.R_far (p := ⟨gb405, 1, none⟩) (Kd.R_far (p := ⟨gb405, 0, none⟩) (Kd.R_types HO331.out BK405.out (by decide)) (fun _ hk => hk.2) (.int .i64 t402)) (fun _ hk => hk.2) (.int .i64 t403)) (fun _ h_ => h_.1))) (Kd.R_base ho0) hb); have n1_ := Aside0.mk (Kd.R_elder' (by (with_reducible repeat (first | apply Kd.R_alloc | apply Kd.R_drewN | apply Kd.R_drew)); exact (Kd.R_mono (Kd.R_far (p := ⟨gb405, 1, none⟩) (Kd.R_far (p := ⟨gb405, 0, none⟩) (Kd.R_types HO345.out BK405.out (by decide)) (fun _ hk => hk.2) (.int .i64 t402)) (fun _ hk => hk.2) (.int .i64 t403)) (fun _ h_ => h_.1))) (Kd.R_base ho0) hb); have n2_ := Aside0.mk (Kd.R_below (by (with_reducible repeat (first | apply Kd.R_alloc | apply Kd.R_drewN | apply Kd.R_drew)); exact (Kd.R_mono (Kd.R_far (p := ⟨gb405, 1, none⟩) (Kd.R_far (p := ⟨gb405, 0, none⟩) (Kd.R_types HO354.out BK405.out (by decide)) (fun _ hk => hk.2) (.int .i64 t402)) (fun _ hk => hk.2) (.int .i64 t403)) (fun _ h_ => h_.1))) hb); have n3_ := Aside0.mk (Kd.R_below (by (with_reducible repeat (first | apply Kd.R_alloc | apply Kd.R_drewN | apply Kd.R_drew)); exact (Kd.R_mono (Kd.R_far (p := ⟨gb405, 1, none⟩) (Kd.R_far (p := ⟨gb405, 0, none⟩) (Kd.R_types HO357.out BK405.out (by decide)) (fun _ hk => hk.2) (.int .i64 t402)) (fun _ hk => hk.2) (.int .i64 t403)) (fun _ h_ => h_.1))) hb); have n4_ := Aside0.mk (Kd.R_below (by (with_reducible repeat (first | apply Kd.R_alloc | apply Kd.R_drewN | apply Kd.R_drew)); exact (Kd.R_mono (Kd.R_far (p := ⟨gb405, 1, none⟩) (Kd.R_far (p := ⟨gb405, 0, none⟩) (Kd.R_types HO360.out BK405.out (by decide)) (fun _ hk => hk.2) (.int .i64 t402)) (fun _ hk => hk.2) (.int .i64 t403)) (fun _ h_ => h_.1))) hb); have n5_ := Aside0.mk (Kd.R_below (by (with_reducible repeat (first | apply Kd.R_alloc | apply Kd.R_drewN | apply Kd.R_drew)); exact (Kd.R_mono (Kd.R_far (p := ⟨gb405, 1, none⟩) (Kd.R_far (p := ⟨gb405, 0, none⟩) (Kd.R_types HO363.out BK405.out (by decide)) (fun _ hk => hk.2) (.int .i64 t402)) (fun _ hk => hk.2) (.int .i64 t403)) (fun _ h_ => h_.1))) hb); have n6_ := Aside0.mk (Kd.R_elder' (by (with_reducible repeat (first | apply Kd.R_alloc | apply Kd.R_drewN | apply Kd.R_drew)); exact (Kd.R_mono (Kd.R_far (p := ⟨gb405, 1, none⟩) (Kd.R_far (p := ⟨gb405, 0, none⟩) (Kd.R_types HO370.out BK405.out (by decide)) (fun _ hk => hk.2) (.int .i64 t402)) (fun _ hk => hk.2) (.int .i64 t403)) (fun _ h_ => h_.1))) (Kd.R_base ho0) hb); have n7_ := Aside0.mk (Kd.R_below (by (with_reducible repeat (first | apply Kd.R_alloc | apply Kd.R_drewN | apply Kd.R_drew)); exact (Kd.R_mono (Kd.R_far (p := ⟨gb405, 1, none⟩) (Kd.R_far (p := ⟨gb405, 0, none⟩) (Kd.R_types HO381.out BK405.out (by decide)) (fun _ hk => hk.2) (.int .i64 t402)) (fun _ hk => hk.2) (.int .i64 t403)) (fun _ h_ => h_.1))) hb); have n8_ := Aside0.mk (Kd.R_elder' (by (with_reducible repeat (first | apply Kd.R_alloc | apply Kd.R_drewN | apply Kd.R_drew)); exact (Kd.R_mono (Kd.R_far (p := ⟨gb405, 1, none⟩) (Kd.R_far (p := ⟨gb405, 0, none⟩) (Kd.R_types HO390.out BK405.out (by decide)) (fun _ hk => hk.2) (.int .i64 t402)) (fun _ hk => hk.2) (.int .i64 t403)) (fun _ h_ => h_.1))) (Kd.R_base ho0) hb); have n9_ := Aside0.mk (Kd.R_below (by (with_reducible repeat (first | apply Kd.R_alloc | apply Kd.R_drewN | apply Kd.R_drew)); exact (Kd.R_mono (Kd.R_far (p := ⟨gb405, 1, none⟩) (Kd.R_far (p := ⟨gb405, 0, none⟩) (Kd.R_types HO401.out BK405.out (by decide)) (fun _ hk => hk.2) (.int .i64 t402)) (fun _ hk => hk.2) (.int .i64 t403)) (fun _ h_ => h_.1))) hb); have n10_ := Aside0.mk (Kd.R_lower (Kd.R_new' (Kd.R_new' (Kd.R_new' (Kd.R_new' ho0 (Kd.R_lt (by (with_reducible repeat (first | apply Kd.R_alloc | apply Kd.R_drewN | apply Kd.R_drew)); exact (Kd.R_mono (Kd.R_far (p := ⟨gb405, 1, none⟩) (Kd.R_far (p := ⟨gb405, 0, none⟩) (Kd.R_types HO331.out BK405.out (by decide)) (fun _ hk => hk.2) (.int .i64 t402)) (fun _ hk => hk.2) (.int .i64 t403)) (fun _ h_ => h_.1))))) (Kd.R_lt (by (with_reducible repeat (first | apply Kd.R_alloc | apply Kd.R_drewN | apply Kd.R_drew)); exact (Kd.R_mono (Kd.R_far (p := ⟨gb405, 1, none⟩) (Kd.R_far (p := ⟨gb405, 0, none⟩) (Kd.R_types HO345.out BK405.out (by decide)) (fun _ hk => hk.2) (.int .i64 t402)) (fun _ hk => hk.2) (.int .i64 t403)) (fun _ h_ => h_.1))))) (Kd.R_lt (by (with_reducible repeat (first | apply Kd.R_alloc | apply Kd.R_drewN | apply Kd.R_drew)); exact (Kd.R_mono (Kd.R_far (p := ⟨gb405, 1, none⟩) (Kd.R_far (p := ⟨gb405, 0, none⟩) (Kd.R_types HO370.out BK405.out (by decide)) (fun _ hk => hk.2) (.int .i64 t402)) (fun _ hk => hk.2) (.int .i64 t403)) (fun _ h_ => h_.1))))) (Kd.R_lt (by (with_reducible repeat (first | apply Kd.R_alloc | apply Kd.R_drewN | apply Kd.R_drew)); exact (Kd.R_mono (Kd.R_far (p := ⟨gb405, 1, none⟩) (Kd.R_far (p := ⟨gb405, 0, none⟩) (Kd.R_types HO390.out BK405.out (by decide)) (fun _ hk => hk.2) (.int .i64 t402)) (fun _ hk => hk.2) (.int .i64 t403)) (fun _ h_ => h_.1))))) (bz w)); replace BK332 := kB gb332 hb; replace BK336 := kB gb336 hb; replace BK340 := kB gb340 hb; replace BK347 := kB gb347 hb; replace BK351 := kB gb351 hb; replace BK385 := kB gb385 hb; replace BK405 := kBo gb405 (.cells #[.int .i64 t402, .int .i64 t403] 40 (0, 0)) hb (by rfl); replace HB := bS w hb; clear HO331 HO345 HO354 HO357 HO360 HO363 HO370 HO381 HO390 HO401; have HO331 := n0_; have HO345 := n1_; have HO354 := n2_; have HO357 := n3_; have HO360 := n4_; have HO363 := n5_; have HO370 := n6_; have HO381 := n7_; have HO390 := n8_; have HO401 := n9_; have HO410 := n10_; clear n0_ n1_ n2_ n3_ n4_ n5_ n6_ n7_ n8_ n9_ n10_; (try clear hb); (try clear ho0)) | ((with_reducible refine gate_callee (f := 67) rfl ?_); refine goesLM (some 70) rfl rfl Tryd.func67 (by kernel_rfl) rfl #[] rfl (by rfl) ?_; (with_reducible refine (snowlinelaw01_sheet.calls  t411 t412 t413 t414 t415 t416 t417 t418 t419 _ A13.out).mono ?_); rintro e w85 ⟨v420, rfl, ho0, hb⟩; refine ⟨_, rfl, ?_⟩; have n7_ := Aside0.mk (Kd.R_elder' (by (with_reducible repeat (first | apply Kd.R_alloc | apply Kd.R_drewN | apply Kd.R_drew)); exact HO381.out) (Kd.R_base ho0) hb); have n9_ := Aside0.mk (Kd.R_elder' (by (with_reducible repeat (first | apply Kd.R_alloc | apply Kd.R_drewN | apply Kd.R_drew)); exact HO401.out) (Kd.R_base ho0) hb); have n11_ := Aside0.mk (Kd.R_lower (Kd.R_new' (Kd.R_new' ho0 (Kd.R_lt (by (with_reducible repeat (first | apply Kd.R_alloc | apply Kd.R_drewN | apply Kd.R_drew)); exact HO381.out))) (Kd.R_lt (by (with_reducible repeat (first | apply Kd.R_alloc | apply Kd.R_drewN | apply Kd.R_drew)); exact HO401.out))) (bz w)); replace HO331 := rB HO331 hb; replace HO345 := rB HO345 hb; replace HO354 := rB HO354 hb; replace HO357 := rB HO357 hb; replace HO360 := rB HO360 hb; replace HO363 := rB HO363 hb; replace HO370 := rB HO370 hb; replace HO390 := rB HO390 hb; replace HO410 := rB HO410 hb; replace BK332 := kB gb332 hb; replace BK336 := kB gb336 hb; replace BK340 := kB gb340 hb; replace BK347 := kB gb347 hb; replace BK351 := kB gb351 hb; replace BK385 := kB gb385 hb; replace BK405 := kB gb405 hb; replace HB := bS w hb; clear HO381 HO401; have HO381 := n7_; have HO401 := n9_; have HO421 := n11_; clear n7_ n9_ n11_; (try clear hb); (try clear ho0); obtain ⟨Ao86, co86, eo86⟩ := Kd.R_slice HO410.out; subst eo86; obtain ⟨Ao87, co87, eo87⟩ := Kd.R_slice HO421.out; subst eo87) | ((with_reducible refine gate_callee (f := 44) rfl ?_); refine goesLM (some 71) rfl rfl Tryd.func44 (by kernel_rfl) rfl #[.agg #[.int .i64 t406, .int .i64 t407, .slice Ao86 t408.length co86], .agg #[.int .i64 t411, .int .i64 t412, .int .i64 t413, .int .i64 t414, .int .i64 t415, .int .i64 t416, .int .i64 t417, .int .i64 t418, .slice Ao87 t419.length co87], .int .i64 0, .int .i64 10] rfl (by rfl) ?_; (with_reducible refine (course_Density.calls k t406 t407 _ _ t408 t411 t412 t413 t414 t415 t416 t417 t418 _ _ t419 0 10 t422 t423 t424 _ ?side1 ?side2 ?side3 ?side4 A14.out).mono ?_); (case side1 => exact cP (Kd.R_reads' HO410.out).2.2); (case side2 => exact (Kd.R_reads' HO410.out).2.1); (case side3 => exact cP (Kd.R_reads' HO421.out).2.2); (case side4 => exact (Kd.R_reads' HO421.out).2.1); rintro e w88 ⟨rfl, hb⟩; refine ⟨_, rfl, ?_⟩; replace HO331 := rB HO331 hb; replace HO345 := rB HO345 hb; replace HO354 := rB HO354 hb; replace HO357 := rB HO357 hb; replace HO360 := rB HO360 hb; replace HO363 := rB HO363 hb; replace HO370 := rB HO370 hb; replace HO381 := rB HO381 hb; replace HO390 := rB HO390 hb; replace HO401 := rB HO401 hb; replace HO410 := rB HO410 hb; replace HO421 := rB HO421 hb; replace BK332 := kB gb332 hb; replace BK336 := kB gb336 hb; replace BK340 := kB gb340 hb; replace BK347 := kB gb347 hb; replace BK351 := kB gb351 hb; replace BK385 := kB gb385 hb; replace BK405 := kB gb405 hb; replace HB := bS w hb; (try clear hb)) | ((with_reducible refine gate_dst (N := 17) rfl ?_); (try (refine gate_guard (by rfl) ?_; dsimp only)); refine bxE 17 40 #[.int .i64 0, .int .i64 0] (by rfl) (by rfl) (by first | (go_simp; done) | (go_simp; rfl)) ?_; intro gb425 hg w89 hbox hb; have BK425 := Bk.mk (hbox); have GE425 := eB w hg; have NB332_425 := nB gb332 hg; have NB336_425 := nB gb336 hg; have NB340_425 := nB gb340 hg; have NB347_425 := nB gb347 hg; have NB351_425 := nB gb351 hg; have NB385_425 := nB gb385 hg; have NB405_425 := nB gb405 hg; replace HO331 := rB HO331 hb; replace HO345 := rB HO345 hb; replace HO354 := rB HO354 hb; replace HO357 := rB HO357 hb; replace HO360 := rB HO360 hb; replace HO363 := rB HO363 hb; replace HO370 := rB HO370 hb; replace HO381 := rB HO381 hb; replace HO390 := rB HO390 hb; replace HO401 := rB HO401 hb; replace HO410 := rB HO410 hb; replace HO421 := rB HO421 hb; replace BK332 := kB gb332 hb; replace BK336 := kB gb336 hb; replace BK340 := kB gb340 hb; replace BK347 := kB gb347 hb; replace BK351 := kB gb351 hb; replace BK385 := kB gb385 hb; replace BK405 := kB gb405 hb; replace HB := bS w hb; clear hb hbox hg; obtain ⟨hnc90, hnb90⟩ := nn NB332_425; obtain ⟨hnc91, hnb91⟩ := nn NB336_425; obtain ⟨hnc92, hnb92⟩ := nn NB340_425; obtain ⟨hnc93, hnb93⟩ := nn NB347_425; obtain ⟨hnc94, hnb94⟩ := nn NB351_425; obtain ⟨hnc95, hnb95⟩ := nn NB385_425; obtain ⟨hnc96, hnb96⟩ := nn NB405_425; obtain ⟨hcz97_0, hcz97_1, hfz97_0, hfz97_1⟩ := cz2 BK425) | ((with_reducible refine gate_callee (f := 67) rfl ?_); refine goesLM (some 75) rfl rfl Tryd.func67 (by kernel_rfl) rfl #[] rfl (by rfl) ?_; (with_reducible refine (snowlinelaw01_sheet.calls  t426 t427 t428 t429 t430 t431 t432 t433 t434 _ A15.out).mono ?_); rintro e w98 ⟨v435, rfl, ho0, hb⟩; refine ⟨_, rfl, ?_⟩; have n0_ := Aside0.mk (Kd.R_below (by (with_reducible repeat (first | apply Kd.R_alloc | apply Kd.R_drewN | apply Kd.R_drew)); exact (Kd.R_mono (Kd.R_far (p := ⟨gb425, 1, none⟩) (Kd.R_far (p := ⟨gb425, 0, none⟩) (Kd.R_types HO331.out BK425.out (by decide)) (fun _ hk => hk.2) (.int .i64 t422)) (fun _ hk => hk.2) (.int .i64 t423)) (fun _ h_ => h_.1))) hb); have n1_ := Aside0.mk (Kd.R_below (by (with_reducible repeat (first | apply Kd.R_alloc | apply Kd.R_drewN | apply Kd.R_drew)); exact (Kd.R_mono (Kd.R_far (p := ⟨gb425, 1, none⟩) (Kd.R_far (p := ⟨gb425, 0, none⟩) (Kd.R_types HO345.out BK425.out (by decide)) (fun _ hk => hk.2) (.int .i64 t422)) (fun _ hk => hk.2) (.int .i64 t423)) (fun _ h_ => h_.1))) hb); have n2_ := Aside0.mk (Kd.R_below (by (with_reducible repeat (first | apply Kd.R_alloc | apply Kd.R_drewN | apply Kd.R_drew)); exact (Kd.R_mono (Kd.R_far (p := ⟨gb425, 1, none⟩) (Kd.R_far (p := ⟨gb425, 0, none⟩) (Kd.R_types HO354.out BK425.out (by decide)) (fun _ hk => hk.2) (.int .i64 t422)) (fun _ hk => hk.2) (.int .i64 t423)) (fun _ h_ => h_.1))) hb); have n3_ := Aside0.mk (Kd.R_below (by (with_reducible repeat (first | apply Kd.R_alloc | apply Kd.R_drewN | apply Kd.R_drew)); exact (Kd.R_mono (Kd.R_far (p := ⟨gb425, 1, none⟩) (Kd.R_far (p := ⟨gb425, 0, none⟩) (Kd.R_types HO357.out BK425.out (by decide)) (fun _ hk => hk.2) (.int .i64 t422)) (fun _ hk => hk.2) (.int .i64 t423)) (fun _ h_ => h_.1))) hb); have n4_ := Aside0.mk (Kd.R_below (by (with_reducible repeat (first | apply Kd.R_alloc | apply Kd.R_drewN | apply Kd.R_drew)); exact (Kd.R_mono (Kd.R_far (p := ⟨gb425, 1, none⟩) (Kd.R_far (p := ⟨gb425, 0, none⟩) (Kd.R_types HO360.out BK425.out (by decide)) (fun _ hk => hk.2) (.int .i64 t422)) (fun _ hk => hk.2) (.int .i64 t423)) (fun _ h_ => h_.1))) hb); have n5_ := Aside0.mk (Kd.R_below (by (with_reducible repeat (first | apply Kd.R_alloc | apply Kd.R_drewN | apply Kd.R_drew)); exact (Kd.R_mono (Kd.R_far (p := ⟨gb425, 1, none⟩) (Kd.R_far (p := ⟨gb425, 0, none⟩) (Kd.R_types HO363.out BK425.out (by decide)) (fun _ hk => hk.2) (.int .i64 t422)) (fun _ hk => hk.2) (.int .i64 t423)) (fun _ h_ => h_.1))) hb); have n6_ := Aside0.mk (Kd.R_below (by (with_reducible repeat (first | apply Kd.R_alloc | apply Kd.R_drewN | apply Kd.R_drew)); exact (Kd.R_mono (Kd.R_far (p := ⟨gb425, 1, none⟩) (Kd.R_far (p := ⟨gb425, 0, none⟩) (Kd.R_types HO370.out BK425.out (by decide)) (fun _ hk => hk.2) (.int .i64 t422)) (fun _ hk => hk.2) (.int .i64 t423)) (fun _ h_ => h_.1))) hb); have n7_ := Aside0.mk (Kd.R_elder' (by (with_reducible repeat (first | apply Kd.R_alloc | apply Kd.R_drewN | apply Kd.R_drew)); exact (Kd.R_mono (Kd.R_far (p := ⟨gb425, 1, none⟩) (Kd.R_far (p := ⟨gb425, 0, none⟩) (Kd.R_types HO381.out BK425.out (by decide)) (fun _ hk => hk.2) (.int .i64 t422)) (fun _ hk => hk.2) (.int .i64 t423)) (fun _ h_ => h_.1))) (Kd.R_base ho0) hb); have n8_ := Aside0.mk (Kd.R_below (by (with_reducible repeat (first | apply Kd.R_alloc | apply Kd.R_drewN | apply Kd.R_drew)); exact (Kd.R_mono (Kd.R_far (p := ⟨gb425, 1, none⟩) (Kd.R_far (p := ⟨gb425, 0, none⟩) (Kd.R_types HO390.out BK425.out (by decide)) (fun _ hk => hk.2) (.int .i64 t422)) (fun _ hk => hk.2) (.int .i64 t423)) (fun _ h_ => h_.1))) hb); have n9_ := Aside0.mk (Kd.R_elder' (by (with_reducible repeat (first | apply Kd.R_alloc | apply Kd.R_drewN | apply Kd.R_drew)); exact (Kd.R_mono (Kd.R_far (p := ⟨gb425, 1, none⟩) (Kd.R_far (p := ⟨gb425, 0, none⟩) (Kd.R_types HO401.out BK425.out (by decide)) (fun _ hk => hk.2) (.int .i64 t422)) (fun _ hk => hk.2) (.int .i64 t423)) (fun _ h_ => h_.1))) (Kd.R_base ho0) hb); have n10_ := Aside0.mk (Kd.R_below (by (with_reducible repeat (first | apply Kd.R_alloc | apply Kd.R_drewN | apply Kd.R_drew)); exact (Kd.R_mono (Kd.R_far (p := ⟨gb425, 1, none⟩) (Kd.R_far (p := ⟨gb425, 0, none⟩) (Kd.R_types HO410.out BK425.out (by decide)) (fun _ hk => hk.2) (.int .i64 t422)) (fun _ hk => hk.2) (.int .i64 t423)) (fun _ h_ => h_.1))) hb); have n11_ := Aside0.mk (Kd.R_elder' (by (with_reducible repeat (first | apply Kd.R_alloc | apply Kd.R_drewN | apply Kd.R_drew)); exact (Kd.R_mono (Kd.R_far (p := ⟨gb425, 1, none⟩) (Kd.R_far (p := ⟨gb425, 0, none⟩) (Kd.R_types HO421.out BK425.out (by decide)) (fun _ hk => hk.2) (.int .i64 t422)) (fun _ hk => hk.2) (.int .i64 t423)) (fun _ h_ => h_.1))) (Kd.R_base ho0) hb); have n12_ := Aside0.mk (Kd.R_lower (Kd.R_new' (Kd.R_new' (Kd.R_new' ho0 (Kd.R_lt (by (with_reducible repeat (first | apply Kd.R_alloc | apply Kd.R_drewN | apply Kd.R_drew)); exact (Kd.R_mono (Kd.R_far (p := ⟨gb425, 1, none⟩) (Kd.R_far (p := ⟨gb425, 0, none⟩) (Kd.R_types HO381.out BK425.out (by decide)) (fun _ hk => hk.2) (.int .i64 t422)) (fun _ hk => hk.2) (.int .i64 t423)) (fun _ h_ => h_.1))))) (Kd.R_lt (by (with_reducible repeat (first | apply Kd.R_alloc | apply Kd.R_drewN | apply Kd.R_drew)); exact (Kd.R_mono (Kd.R_far (p := ⟨gb425, 1, none⟩) (Kd.R_far (p := ⟨gb425, 0, none⟩) (Kd.R_types HO401.out BK425.out (by decide)) (fun _ hk => hk.2) (.int .i64 t422)) (fun _ hk => hk.2) (.int .i64 t423)) (fun _ h_ => h_.1))))) (Kd.R_lt (by (with_reducible repeat (first | apply Kd.R_alloc | apply Kd.R_drewN | apply Kd.R_drew)); exact (Kd.R_mono (Kd.R_far (p := ⟨gb425, 1, none⟩) (Kd.R_far (p := ⟨gb425, 0, none⟩) (Kd.R_types HO421.out BK425.out (by decide)) (fun _ hk => hk.2) (.int .i64 t422)) (fun _ hk => hk.2) (.int .i64 t423)) (fun _ h_ => h_.1))))) (bz w)); replace BK332 := kB gb332 hb; replace BK336 := kB gb336 hb; replace BK340 := kB gb340 hb; replace BK347 := kB gb347 hb; replace BK351 := kB gb351 hb; replace BK385 := kB gb385 hb; replace BK405 := kB gb405 hb; replace BK425 := kBo gb425 (.cells #[.int .i64 t422, .int .i64 t423] 40 (0, 0)) hb (by rfl); replace HB := bS w hb; clear HO331 HO345 HO354 HO357 HO360 HO363 HO370 HO381 HO390 HO401 HO410 HO421; have HO331 := n0_; have HO345 := n1_; have HO354 := n2_; have HO357 := n3_; have HO360 := n4_; have HO363 := n5_; have HO370 := n6_; have HO381 := n7_; have HO390 := n8_; have HO401 := n9_; have HO410 := n10_; have HO421 := n11_; have HO436 := n12_; clear n0_ n1_ n2_ n3_ n4_ n5_ n6_ n7_ n8_ n9_ n10_ n11_ n12_; (try clear hb); (try clear ho0); obtain ⟨Ao99, co99, eo99⟩ := Kd.R_slice HO436.out; subst eo99) | ((with_reducible refine gate_callee (f := 68) rfl ?_); refine goesLM (some 76) rfl rfl Tryd.func68 (by kernel_rfl) rfl #[.agg #[.int .i64 t426, .int .i64 t427, .int .i64 t428, .int .i64 t429, .int .i64 t430, .int .i64 t431, .int .i64 t432, .int .i64 t433, .slice Ao99 t434.length co99]] rfl (by rfl) ?_; (with_reducible refine (course_PrintSheet.calls k t426 t427 t428 t429 t430 t431 t432 t433 _ _ t434 t437 t438 _ ?side1 ?side2 ?side3 A16.out).mono ?_); (case side1 => exact TabH.below hT (bw w)); (case side2 => exact cP (Kd.R_reads' HO436.out).2.2); (case side3 => exact (Kd.R_reads' HO436.out).2.1); rintro e w100 ⟨rfl, hb⟩; refine ⟨_, rfl, ?_⟩; replace HO331 := rB HO331 hb; replace HO345 := rB HO345 hb; replace HO354 := rB HO354 hb; replace HO357 := rB HO357 hb; replace HO360 := rB HO360 hb; replace HO363 := rB HO363 hb; replace HO370 := rB HO370 hb; replace HO381 := rB HO381 hb; replace HO390 := rB HO390 hb; replace HO401 := rB HO401 hb; replace HO410 := rB HO410 hb; replace HO421 := rB HO421 hb; replace HO436 := rB HO436 hb; replace BK332 := kB gb332 hb; replace BK336 := kB gb336 hb; replace BK340 := kB gb340 hb; replace BK347 := kB gb347 hb; replace BK351 := kB gb351 hb; replace BK385 := kB gb385 hb; replace BK405 := kB gb405 hb; replace BK425 := kB gb425 hb; replace HB := bS w hb; (try clear hb); obtain ⟨hcz101_0, hcz101_1, hcz101_2, hfz101_0, hfz101_1, hfz101_2⟩ := cz3 BK332) | ((with_reducible refine gate_callee (f := 16) rfl ?_); refine goesLM (some 82) rfl rfl Tryd.func16 (by kernel_rfl) rfl #[.agg #[.int .i64 0, .int .i64 2, .slice Ao21 y329.length co21], .agg #[.int .i64 12, .int .i64 0, .int .i64 6, .int .i64 7]] rfl (by rfl) ?_; (with_reducible refine (course_AddTest.calls k 0 2 _ _ y329 12 0 6 7 t439 t440 t441 t444 _ ?side1 ?side2 A17.out).mono ?_); (case side1 => exact cP (Kd.R_reads' HO331.out).2.2); (case side2 => exact (Kd.R_reads' HO331.out).2.1); rintro e w102 ⟨v442, rfl, ho0, hb⟩; refine ⟨_, rfl, ?_⟩; have n0_ := Aside0.mk (Kd.R_elder' (by (with_reducible repeat (first | apply Kd.R_alloc | apply Kd.R_drewN | apply Kd.R_drew)); exact HO331.out) (Kd.R_base ho0) hb); have n1_ := Aside0.mk (Kd.R_elder' (by (with_reducible repeat (first | apply Kd.R_alloc | apply Kd.R_drewN | apply Kd.R_drew)); exact HO345.out) (Kd.R_base ho0) hb); have n6_ := Aside0.mk (Kd.R_elder' (by (with_reducible repeat (first | apply Kd.R_alloc | apply Kd.R_drewN | apply Kd.R_drew)); exact HO370.out) (Kd.R_base ho0) hb); have n8_ := Aside0.mk (Kd.R_elder' (by (with_reducible repeat (first | apply Kd.R_alloc | apply Kd.R_drewN | apply Kd.R_drew)); exact HO390.out) (Kd.R_base ho0) hb); have n10_ := Aside0.mk (Kd.R_elder' (by (with_reducible repeat (first | apply Kd.R_alloc | apply Kd.R_drewN | apply Kd.R_drew)); exact HO410.out) (Kd.R_base ho0) hb); have n13_ := Aside0.mk (Kd.R_lower (Kd.R_new' (Kd.R_new' (Kd.R_new' (Kd.R_new' (Kd.R_new' ho0 (Kd.R_lt (by (with_reducible repeat (first | apply Kd.R_alloc | apply Kd.R_drewN | apply Kd.R_drew)); exact HO331.out))) (Kd.R_lt (by (with_reducible repeat (first | apply Kd.R_alloc | apply Kd.R_drewN | apply Kd.R_drew)); exact HO345.out))) (Kd.R_lt (by (with_reducible repeat (first | apply Kd.R_alloc | apply Kd.R_drewN | apply Kd.R_drew)); exact HO370.out))) (Kd.R_lt (by (with_reducible repeat (first | apply Kd.R_alloc | apply Kd.R_drewN | apply Kd.R_drew)); exact HO390.out))) (Kd.R_lt (by (with_reducible repeat (first | apply Kd.R_alloc | apply Kd.R_drewN | apply Kd.R_drew)); exact HO410.out))) (bz w)); replace HO354 := rB HO354 hb; replace HO357 := rB HO357 hb; replace HO360 := rB HO360 hb; replace HO363 := rB HO363 hb; replace HO381 := rB HO381 hb; replace HO401 := rB HO401 hb; replace HO421 := rB HO421 hb; replace HO436 := rB HO436 hb; replace BK332 := kB gb332 hb; replace BK336 := kB gb336 hb; replace BK340 := kB gb340 hb; replace BK347 := kB gb347 hb; replace BK351 := kB gb351 hb; replace BK385 := kB gb385 hb; replace BK405 := kB gb405 hb; replace BK425 := kB gb425 hb; replace HB := bS w hb; clear HO331 HO345 HO370 HO390 HO410; have HO331 := n0_; have HO345 := n1_; have HO370 := n6_; have HO390 := n8_; have HO410 := n10_; have HO443 := n13_; clear n0_ n1_ n6_ n8_ n10_ n13_; (try clear hb); (try clear ho0)) | ((with_reducible refine gate_dst (N := 21) rfl ?_); (try (refine gate_guard (by rfl) ?_; dsimp only)); refine bxE 21 24 #[.int .i64 0, .int .i64 0, .slice none 0 0] (by rfl) (by rfl) (by first | (go_simp; done) | (go_simp; rfl)) ?_; intro gb445 hg w103 hbox hb; have BK445 := Bk.mk (hbox); have GE445 := eB w hg; have NB332_445 := nB gb332 hg; have NB336_445 := nB gb336 hg; have NB340_445 := nB gb340 hg; have NB347_445 := nB gb347 hg; have NB351_445 := nB gb351 hg; have NB385_445 := nB gb385 hg; have NB405_445 := nB gb405 hg; have NB425_445 := nB gb425 hg; replace HO331 := rB HO331 hb; replace HO345 := rB HO345 hb; replace HO354 := rB HO354 hb; replace HO357 := rB HO357 hb; replace HO360 := rB HO360 hb; replace HO363 := rB HO363 hb; replace HO370 := rB HO370 hb; replace HO381 := rB HO381 hb; replace HO390 := rB HO390 hb; replace HO401 := rB HO401 hb; replace HO410 := rB HO410 hb; replace HO421 := rB HO421 hb; replace HO436 := rB HO436 hb; replace HO443 := rB HO443 hb; replace BK332 := kB gb332 hb; replace BK336 := kB gb336 hb; replace BK340 := kB gb340 hb; replace BK347 := kB gb347 hb; replace BK351 := kB gb351 hb; replace BK385 := kB gb385 hb; replace BK405 := kB gb405 hb; replace BK425 := kB gb425 hb; replace HB := bS w hb; clear hb hbox hg; obtain ⟨hnc104, hnb104⟩ := nn NB332_445; obtain ⟨hnc105, hnb105⟩ := nn NB336_445; obtain ⟨hnc106, hnb106⟩ := nn NB340_445; obtain ⟨hnc107, hnb107⟩ := nn NB347_445; obtain ⟨hnc108, hnb108⟩ := nn NB351_445; obtain ⟨hnc109, hnb109⟩ := nn NB385_445; obtain ⟨hnc110, hnb110⟩ := nn NB405_445; obtain ⟨hnc111, hnb111⟩ := nn NB425_445; obtain ⟨hcz112_0, hcz112_1, hcz112_2, hfz112_0, hfz112_1, hfz112_2⟩ := cz3 BK445; obtain ⟨Ao113, co113, eo113⟩ := Kd.R_slice HO443.out; subst eo113))
 (try simp only [Act.put, List.setIfInBounds_toArray, List.set_cons_zero, List.set_cons_succ])
 go_cut [122] (fun v122 wc => ∃ (kq : Nat) (x122_17 : Bool), v122 = .bool x122_17 ∧ Aside0 (snowlinelaw01_sane.j0 kq t361 t364 t437 x122_17 t333 t334 t337 t338 t348 t349 t382 t383 t402 t403 t422 t423 = some true) ∧ Aside0 (kq ≤ k) ∧ Aside0 (Kd.R (Kd.int .i64) 3 wc w.heap.size (fun _ => True) v362 t361) ∧ Aside0 (Kd.R k26 26 wc w.heap.size (fun k_ => some k_ ≠ ((.slice Ao41 t343.length co41) : Value).ownBlock ∧ some k_ ≠ ((.slice Ao113 t441.length co113) : Value).ownBlock) (.slice Ao21 y329.length co21) y329) ∧ Aside0 (Kd.R k26 26 wc w.heap.size (fun k_ => some k_ ≠ ((.slice Ao21 y329.length co21) : Value).ownBlock ∧ some k_ ≠ ((.slice Ao113 t441.length co113) : Value).ownBlock) (.slice Ao41 t343.length co41) t343) ∧ Aside0 (Kd.R k26 26 wc w.heap.size (fun k_ => some k_ ≠ ((.slice Ao21 y329.length co21) : Value).ownBlock ∧ some k_ ≠ ((.slice Ao41 t343.length co41) : Value).ownBlock) (.slice Ao113 t441.length co113) t441) ∧ Bk wc gb332 (.cells #[.int .i64 0, .int .i64 2, (.slice Ao21 y329.length co21)] 24 (0, 0)) ∧ Bk wc gb336 (.cells #[.int .i64 t333, .int .i64 t334] 40 (0, 0)) ∧ Bk wc gb340 (.cells #[.int .i64 t337, .int .i64 t338] 40 (0, 0)) ∧ Bk wc gb347 (.cells #[.int .i64 t341, .int .i64 t342, (.slice Ao41 t343.length co41)] 24 (0, 0)) ∧ Bk wc gb351 (.cells #[.int .i64 t348, .int .i64 t349] 40 (0, 0)) ∧ Bk wc gb385 (.cells #[.int .i64 t382, .int .i64 t383] 40 (0, 0)) ∧ Bk wc gb405 (.cells #[.int .i64 t402, .int .i64 t403] 40 (0, 0)) ∧ Bk wc gb425 (.cells #[.int .i64 t422, .int .i64 t423] 40 (0, 0)) ∧ Bk wc gb445 (.cells #[.int .i64 t439, .int .i64 t440, (.slice Ao113 t441.length co113)] 24 (0, 0)) ∧ Bw w wc)
 case first =>
  have H := HC18.out
  clear HC18
  by_cases c114 : t335 = 0
  ·
   rw [if_pos c114] at H
   have c114b0 : (t335 == 0) = true := beq_iff_eq.mpr c114
   have c114b1 : (t335 != 0) = false := bne_eq_false_iff_eq.mpr c114
   clear c114
   (first | rw [c114b0] | (simp only [i64_w]; rw [c114b0]) | skip)
   by_cases c115 : t339 = 0
   ·
    rw [if_pos c115] at H
    have c115b0 : (t339 == 0) = true := beq_iff_eq.mpr c115
    have c115b1 : (t339 != 0) = false := bne_eq_false_iff_eq.mpr c115
    clear c115
    by_cases c116 : t346 = 0
    ·
     rw [if_pos c116] at H
     have c116b0 : (t346 == 0) = true := beq_iff_eq.mpr c116
     have c116b1 : (t346 != 0) = false := bne_eq_false_iff_eq.mpr c116
     clear c116
     by_cases c117 : t350 = 0
     ·
      rw [if_pos c117] at H
      have c117b0 : (t350 == 0) = true := beq_iff_eq.mpr c117
      have c117b1 : (t350 != 0) = false := bne_eq_false_iff_eq.mpr c117
      clear c117
      by_cases c118 : t365 = 0
      ·
       rw [if_pos c118] at H
       have c118b0 : (t365 == 0) = true := beq_iff_eq.mpr c118
       have c118b1 : (t365 != 0) = false := bne_eq_false_iff_eq.mpr c118
       clear c118
       by_cases c119 : t384 = 0
       ·
        rw [if_pos c119] at H
        have c119b0 : (t384 == 0) = true := beq_iff_eq.mpr c119
        have c119b1 : (t384 != 0) = false := bne_eq_false_iff_eq.mpr c119
        clear c119
        by_cases c120 : t404 = 0
        ·
         rw [if_pos c120] at H
         have c120b0 : (t404 == 0) = true := beq_iff_eq.mpr c120
         have c120b1 : (t404 != 0) = false := bne_eq_false_iff_eq.mpr c120
         clear c120
         by_cases c121 : t424 = 0
         ·
          rw [if_pos c121] at H
          have c121b0 : (t424 == 0) = true := beq_iff_eq.mpr c121
          have c121b1 : (t424 != 0) = false := bne_eq_false_iff_eq.mpr c121
          clear c121
          by_cases c122 : t438 = 0
          ·
           rw [if_pos c122] at H
           have c122b0 : (t438 == 0) = true := beq_iff_eq.mpr c122
           have c122b1 : (t438 != 0) = false := bne_eq_false_iff_eq.mpr c122
           clear c122
           have H' := Aside0.mk H
           clear H
           go_wp2
           go_meet
           case rel => exact ⟨_, ((t444 != 13)), (by first | rfl | (simp; done) | (simp [*]; done)), H', ⟨by first | omega | exact Nat.le_refl _⟩, ⟨by (with_reducible repeat (first | apply Kd.R_alloc | apply Kd.R_drewN | apply Kd.R_drew)); exact Kd.R_mono (Kd.R_far (p := ⟨gb445, 2, none⟩) (Kd.R_far (p := ⟨gb445, 1, none⟩) (Kd.R_far (p := ⟨gb445, 0, none⟩) (Kd.R_types HO363.out BK445.out (by decide)) (fun _ hk => hk.2) (.int .i64 t439)) (fun _ hk => hk.2) (.int .i64 t440)) (fun _ hk => hk.2) (.slice Ao113 t441.length co113)) (fun _ hk => trivial)⟩, ⟨by (with_reducible repeat (first | apply Kd.R_alloc | apply Kd.R_drewN | apply Kd.R_drew)); exact Kd.R_mono (Kd.R_far (p := ⟨gb445, 2, none⟩) (Kd.R_far (p := ⟨gb445, 1, none⟩) (Kd.R_far (p := ⟨gb445, 0, none⟩) (Kd.R_types HO331.out BK445.out (by decide)) (fun _ hk => hk.2) (.int .i64 t439)) (fun _ hk => hk.2) (.int .i64 t440)) (fun _ hk => hk.2) (.slice Ao113 t441.length co113)) (fun _ hk => ⟨hk.1.1.1.1.1.2, hk.1.2⟩)⟩, ⟨by (with_reducible repeat (first | apply Kd.R_alloc | apply Kd.R_drewN | apply Kd.R_drew)); exact Kd.R_mono (Kd.R_far (p := ⟨gb445, 2, none⟩) (Kd.R_far (p := ⟨gb445, 1, none⟩) (Kd.R_far (p := ⟨gb445, 0, none⟩) (Kd.R_types HO345.out BK445.out (by decide)) (fun _ hk => hk.2) (.int .i64 t439)) (fun _ hk => hk.2) (.int .i64 t440)) (fun _ hk => hk.2) (.slice Ao113 t441.length co113)) (fun _ hk => ⟨hk.1.1.1.1.1.2, hk.1.2⟩)⟩, ⟨by (with_reducible repeat (first | apply Kd.R_alloc | apply Kd.R_drewN | apply Kd.R_drew)); exact Kd.R_mono (Kd.R_far (p := ⟨gb445, 2, none⟩) (Kd.R_far (p := ⟨gb445, 1, none⟩) (Kd.R_far (p := ⟨gb445, 0, none⟩) (Kd.R_types HO443.out BK445.out (by decide)) (fun _ hk => hk.2) (.int .i64 t439)) (fun _ hk => hk.2) (.int .i64 t440)) (fun _ hk => hk.2) (.slice Ao113 t441.length co113)) (fun _ hk => ⟨hk.1.1.1.1.1.2, hk.1.1.1.1.2⟩)⟩, ⟨bko gb332 (by rfl)⟩, ⟨bko gb336 (by rfl)⟩, ⟨bko gb340 (by rfl)⟩, ⟨bko gb347 (by rfl)⟩, ⟨bko gb351 (by rfl)⟩, ⟨bko gb385 (by rfl)⟩, ⟨bko gb405 (by rfl)⟩, ⟨bko gb425 (by rfl)⟩, ⟨bko gb445 (by rfl)⟩, inferInstance⟩
          ·
           rw [if_neg c122] at H
           have c122b0 : (t438 == 0) = false := beq_eq_false_iff_ne.mpr c122
           have c122b1 : (t438 != 0) = true := bne_iff_ne.mpr c122
           have H' := Aside0.mk H
           clear H
           go_wp2
           go_meet
           case rel => exact ⟨_, (true), (by first | rfl | (simp; done) | (simp [*]; done)), H', ⟨by first | omega | exact Nat.le_refl _⟩, ⟨by (with_reducible repeat (first | apply Kd.R_alloc | apply Kd.R_drewN | apply Kd.R_drew)); exact Kd.R_mono (Kd.R_far (p := ⟨gb445, 2, none⟩) (Kd.R_far (p := ⟨gb445, 1, none⟩) (Kd.R_far (p := ⟨gb445, 0, none⟩) (Kd.R_types HO363.out BK445.out (by decide)) (fun _ hk => hk.2) (.int .i64 t439)) (fun _ hk => hk.2) (.int .i64 t440)) (fun _ hk => hk.2) (.slice Ao113 t441.length co113)) (fun _ hk => trivial)⟩, ⟨by (with_reducible repeat (first | apply Kd.R_alloc | apply Kd.R_drewN | apply Kd.R_drew)); exact Kd.R_mono (Kd.R_far (p := ⟨gb445, 2, none⟩) (Kd.R_far (p := ⟨gb445, 1, none⟩) (Kd.R_far (p := ⟨gb445, 0, none⟩) (Kd.R_types HO331.out BK445.out (by decide)) (fun _ hk => hk.2) (.int .i64 t439)) (fun _ hk => hk.2) (.int .i64 t440)) (fun _ hk => hk.2) (.slice Ao113 t441.length co113)) (fun _ hk => ⟨hk.1.1.1.1.1.2, hk.1.2⟩)⟩, ⟨by (with_reducible repeat (first | apply Kd.R_alloc | apply Kd.R_drewN | apply Kd.R_drew)); exact Kd.R_mono (Kd.R_far (p := ⟨gb445, 2, none⟩) (Kd.R_far (p := ⟨gb445, 1, none⟩) (Kd.R_far (p := ⟨gb445, 0, none⟩) (Kd.R_types HO345.out BK445.out (by decide)) (fun _ hk => hk.2) (.int .i64 t439)) (fun _ hk => hk.2) (.int .i64 t440)) (fun _ hk => hk.2) (.slice Ao113 t441.length co113)) (fun _ hk => ⟨hk.1.1.1.1.1.2, hk.1.2⟩)⟩, ⟨by (with_reducible repeat (first | apply Kd.R_alloc | apply Kd.R_drewN | apply Kd.R_drew)); exact Kd.R_mono (Kd.R_far (p := ⟨gb445, 2, none⟩) (Kd.R_far (p := ⟨gb445, 1, none⟩) (Kd.R_far (p := ⟨gb445, 0, none⟩) (Kd.R_types HO443.out BK445.out (by decide)) (fun _ hk => hk.2) (.int .i64 t439)) (fun _ hk => hk.2) (.int .i64 t440)) (fun _ hk => hk.2) (.slice Ao113 t441.length co113)) (fun _ hk => ⟨hk.1.1.1.1.1.2, hk.1.1.1.1.2⟩)⟩, ⟨bko gb332 (by rfl)⟩, ⟨bko gb336 (by rfl)⟩, ⟨bko gb340 (by rfl)⟩, ⟨bko gb347 (by rfl)⟩, ⟨bko gb351 (by rfl)⟩, ⟨bko gb385 (by rfl)⟩, ⟨bko gb405 (by rfl)⟩, ⟨bko gb425 (by rfl)⟩, ⟨bko gb445 (by rfl)⟩, inferInstance⟩
         ·
          rw [if_neg c121] at H
          have c121b0 : (t424 == 0) = false := beq_eq_false_iff_ne.mpr c121
          have c121b1 : (t424 != 0) = true := bne_iff_ne.mpr c121
          have H' := Aside0.mk H
          clear H
          go_wp2
          go_meet
          case rel => exact ⟨_, (true), (by first | rfl | (simp; done) | (simp [*]; done)), H', ⟨by first | omega | exact Nat.le_refl _⟩, ⟨by (with_reducible repeat (first | apply Kd.R_alloc | apply Kd.R_drewN | apply Kd.R_drew)); exact Kd.R_mono (Kd.R_far (p := ⟨gb445, 2, none⟩) (Kd.R_far (p := ⟨gb445, 1, none⟩) (Kd.R_far (p := ⟨gb445, 0, none⟩) (Kd.R_types HO363.out BK445.out (by decide)) (fun _ hk => hk.2) (.int .i64 t439)) (fun _ hk => hk.2) (.int .i64 t440)) (fun _ hk => hk.2) (.slice Ao113 t441.length co113)) (fun _ hk => trivial)⟩, ⟨by (with_reducible repeat (first | apply Kd.R_alloc | apply Kd.R_drewN | apply Kd.R_drew)); exact Kd.R_mono (Kd.R_far (p := ⟨gb445, 2, none⟩) (Kd.R_far (p := ⟨gb445, 1, none⟩) (Kd.R_far (p := ⟨gb445, 0, none⟩) (Kd.R_types HO331.out BK445.out (by decide)) (fun _ hk => hk.2) (.int .i64 t439)) (fun _ hk => hk.2) (.int .i64 t440)) (fun _ hk => hk.2) (.slice Ao113 t441.length co113)) (fun _ hk => ⟨hk.1.1.1.1.1.2, hk.1.2⟩)⟩, ⟨by (with_reducible repeat (first | apply Kd.R_alloc | apply Kd.R_drewN | apply Kd.R_drew)); exact Kd.R_mono (Kd.R_far (p := ⟨gb445, 2, none⟩) (Kd.R_far (p := ⟨gb445, 1, none⟩) (Kd.R_far (p := ⟨gb445, 0, none⟩) (Kd.R_types HO345.out BK445.out (by decide)) (fun _ hk => hk.2) (.int .i64 t439)) (fun _ hk => hk.2) (.int .i64 t440)) (fun _ hk => hk.2) (.slice Ao113 t441.length co113)) (fun _ hk => ⟨hk.1.1.1.1.1.2, hk.1.2⟩)⟩, ⟨by (with_reducible repeat (first | apply Kd.R_alloc | apply Kd.R_drewN | apply Kd.R_drew)); exact Kd.R_mono (Kd.R_far (p := ⟨gb445, 2, none⟩) (Kd.R_far (p := ⟨gb445, 1, none⟩) (Kd.R_far (p := ⟨gb445, 0, none⟩) (Kd.R_types HO443.out BK445.out (by decide)) (fun _ hk => hk.2) (.int .i64 t439)) (fun _ hk => hk.2) (.int .i64 t440)) (fun _ hk => hk.2) (.slice Ao113 t441.length co113)) (fun _ hk => ⟨hk.1.1.1.1.1.2, hk.1.1.1.1.2⟩)⟩, ⟨bko gb332 (by rfl)⟩, ⟨bko gb336 (by rfl)⟩, ⟨bko gb340 (by rfl)⟩, ⟨bko gb347 (by rfl)⟩, ⟨bko gb351 (by rfl)⟩, ⟨bko gb385 (by rfl)⟩, ⟨bko gb405 (by rfl)⟩, ⟨bko gb425 (by rfl)⟩, ⟨bko gb445 (by rfl)⟩, inferInstance⟩
        ·
         rw [if_neg c120] at H
         have c120b0 : (t404 == 0) = false := beq_eq_false_iff_ne.mpr c120
         have c120b1 : (t404 != 0) = true := bne_iff_ne.mpr c120
         have H' := Aside0.mk H
         clear H
         go_wp2
         go_meet
         case rel => exact ⟨_, (true), (by first | rfl | (simp; done) | (simp [*]; done)), H', ⟨by first | omega | exact Nat.le_refl _⟩, ⟨by (with_reducible repeat (first | apply Kd.R_alloc | apply Kd.R_drewN | apply Kd.R_drew)); exact Kd.R_mono (Kd.R_far (p := ⟨gb445, 2, none⟩) (Kd.R_far (p := ⟨gb445, 1, none⟩) (Kd.R_far (p := ⟨gb445, 0, none⟩) (Kd.R_types HO363.out BK445.out (by decide)) (fun _ hk => hk.2) (.int .i64 t439)) (fun _ hk => hk.2) (.int .i64 t440)) (fun _ hk => hk.2) (.slice Ao113 t441.length co113)) (fun _ hk => trivial)⟩, ⟨by (with_reducible repeat (first | apply Kd.R_alloc | apply Kd.R_drewN | apply Kd.R_drew)); exact Kd.R_mono (Kd.R_far (p := ⟨gb445, 2, none⟩) (Kd.R_far (p := ⟨gb445, 1, none⟩) (Kd.R_far (p := ⟨gb445, 0, none⟩) (Kd.R_types HO331.out BK445.out (by decide)) (fun _ hk => hk.2) (.int .i64 t439)) (fun _ hk => hk.2) (.int .i64 t440)) (fun _ hk => hk.2) (.slice Ao113 t441.length co113)) (fun _ hk => ⟨hk.1.1.1.1.1.2, hk.1.2⟩)⟩, ⟨by (with_reducible repeat (first | apply Kd.R_alloc | apply Kd.R_drewN | apply Kd.R_drew)); exact Kd.R_mono (Kd.R_far (p := ⟨gb445, 2, none⟩) (Kd.R_far (p := ⟨gb445, 1, none⟩) (Kd.R_far (p := ⟨gb445, 0, none⟩) (Kd.R_types HO345.out BK445.out (by decide)) (fun _ hk => hk.2) (.int .i64 t439)) (fun _ hk => hk.2) (.int .i64 t440)) (fun _ hk => hk.2) (.slice Ao113 t441.length co113)) (fun _ hk => ⟨hk.1.1.1.1.1.2, hk.1.2⟩)⟩, ⟨by (with_reducible repeat (first | apply Kd.R_alloc | apply Kd.R_drewN | apply Kd.R_drew)); exact Kd.R_mono (Kd.R_far (p := ⟨gb445, 2, none⟩) (Kd.R_far (p := ⟨gb445, 1, none⟩) (Kd.R_far (p := ⟨gb445, 0, none⟩) (Kd.R_types HO443.out BK445.out (by decide)) (fun _ hk => hk.2) (.int .i64 t439)) (fun _ hk => hk.2) (.int .i64 t440)) (fun _ hk => hk.2) (.slice Ao113 t441.length co113)) (fun _ hk => ⟨hk.1.1.1.1.1.2, hk.1.1.1.1.2⟩)⟩, ⟨bko gb332 (by rfl)⟩, ⟨bko gb336 (by rfl)⟩, ⟨bko gb340 (by rfl)⟩, ⟨bko gb347 (by rfl)⟩, ⟨bko gb351 (by rfl)⟩, ⟨bko gb385 (by rfl)⟩, ⟨bko gb405 (by rfl)⟩, ⟨bko gb425 (by rfl)⟩, ⟨bko gb445 (by rfl)⟩, inferInstance⟩
       ·
        rw [if_neg c119] at H
        have c119b0 : (t384 == 0) = false := beq_eq_false_iff_ne.mpr c119
        have c119b1 : (t384 != 0) = true := bne_iff_ne.mpr c119
        have H' := Aside0.mk H
        clear H
        go_wp2
        go_meet
        case rel => exact ⟨_, (true), (by first | rfl | (simp; done) | (simp [*]; done)), H', ⟨by first | omega | exact Nat.le_refl _⟩, ⟨by (with_reducible repeat (first | apply Kd.R_alloc | apply Kd.R_drewN | apply Kd.R_drew)); exact Kd.R_mono (Kd.R_far (p := ⟨gb445, 2, none⟩) (Kd.R_far (p := ⟨gb445, 1, none⟩) (Kd.R_far (p := ⟨gb445, 0, none⟩) (Kd.R_types HO363.out BK445.out (by decide)) (fun _ hk => hk.2) (.int .i64 t439)) (fun _ hk => hk.2) (.int .i64 t440)) (fun _ hk => hk.2) (.slice Ao113 t441.length co113)) (fun _ hk => trivial)⟩, ⟨by (with_reducible repeat (first | apply Kd.R_alloc | apply Kd.R_drewN | apply Kd.R_drew)); exact Kd.R_mono (Kd.R_far (p := ⟨gb445, 2, none⟩) (Kd.R_far (p := ⟨gb445, 1, none⟩) (Kd.R_far (p := ⟨gb445, 0, none⟩) (Kd.R_types HO331.out BK445.out (by decide)) (fun _ hk => hk.2) (.int .i64 t439)) (fun _ hk => hk.2) (.int .i64 t440)) (fun _ hk => hk.2) (.slice Ao113 t441.length co113)) (fun _ hk => ⟨hk.1.1.1.1.1.2, hk.1.2⟩)⟩, ⟨by (with_reducible repeat (first | apply Kd.R_alloc | apply Kd.R_drewN | apply Kd.R_drew)); exact Kd.R_mono (Kd.R_far (p := ⟨gb445, 2, none⟩) (Kd.R_far (p := ⟨gb445, 1, none⟩) (Kd.R_far (p := ⟨gb445, 0, none⟩) (Kd.R_types HO345.out BK445.out (by decide)) (fun _ hk => hk.2) (.int .i64 t439)) (fun _ hk => hk.2) (.int .i64 t440)) (fun _ hk => hk.2) (.slice Ao113 t441.length co113)) (fun _ hk => ⟨hk.1.1.1.1.1.2, hk.1.2⟩)⟩, ⟨by (with_reducible repeat (first | apply Kd.R_alloc | apply Kd.R_drewN | apply Kd.R_drew)); exact Kd.R_mono (Kd.R_far (p := ⟨gb445, 2, none⟩) (Kd.R_far (p := ⟨gb445, 1, none⟩) (Kd.R_far (p := ⟨gb445, 0, none⟩) (Kd.R_types HO443.out BK445.out (by decide)) (fun _ hk => hk.2) (.int .i64 t439)) (fun _ hk => hk.2) (.int .i64 t440)) (fun _ hk => hk.2) (.slice Ao113 t441.length co113)) (fun _ hk => ⟨hk.1.1.1.1.1.2, hk.1.1.1.1.2⟩)⟩, ⟨bko gb332 (by rfl)⟩, ⟨bko gb336 (by rfl)⟩, ⟨bko gb340 (by rfl)⟩, ⟨bko gb347 (by rfl)⟩, ⟨bko gb351 (by rfl)⟩, ⟨bko gb385 (by rfl)⟩, ⟨bko gb405 (by rfl)⟩, ⟨bko gb425 (by rfl)⟩, ⟨bko gb445 (by rfl)⟩, inferInstance⟩
      ·
       rw [if_neg c118] at H
       have c118b0 : (t365 == 0) = false := beq_eq_false_iff_ne.mpr c118
       have c118b1 : (t365 != 0) = true := bne_iff_ne.mpr c118
       have H' := Aside0.mk H
       clear H
       go_wp2
       go_meet
       case rel => exact ⟨_, (true), (by first | rfl | (simp; done) | (simp [*]; done)), H', ⟨by first | omega | exact Nat.le_refl _⟩, ⟨by (with_reducible repeat (first | apply Kd.R_alloc | apply Kd.R_drewN | apply Kd.R_drew)); exact Kd.R_mono (Kd.R_far (p := ⟨gb445, 2, none⟩) (Kd.R_far (p := ⟨gb445, 1, none⟩) (Kd.R_far (p := ⟨gb445, 0, none⟩) (Kd.R_types HO363.out BK445.out (by decide)) (fun _ hk => hk.2) (.int .i64 t439)) (fun _ hk => hk.2) (.int .i64 t440)) (fun _ hk => hk.2) (.slice Ao113 t441.length co113)) (fun _ hk => trivial)⟩, ⟨by (with_reducible repeat (first | apply Kd.R_alloc | apply Kd.R_drewN | apply Kd.R_drew)); exact Kd.R_mono (Kd.R_far (p := ⟨gb445, 2, none⟩) (Kd.R_far (p := ⟨gb445, 1, none⟩) (Kd.R_far (p := ⟨gb445, 0, none⟩) (Kd.R_types HO331.out BK445.out (by decide)) (fun _ hk => hk.2) (.int .i64 t439)) (fun _ hk => hk.2) (.int .i64 t440)) (fun _ hk => hk.2) (.slice Ao113 t441.length co113)) (fun _ hk => ⟨hk.1.1.1.1.1.2, hk.1.2⟩)⟩, ⟨by (with_reducible repeat (first | apply Kd.R_alloc | apply Kd.R_drewN | apply Kd.R_drew)); exact Kd.R_mono (Kd.R_far (p := ⟨gb445, 2, none⟩) (Kd.R_far (p := ⟨gb445, 1, none⟩) (Kd.R_far (p := ⟨gb445, 0, none⟩) (Kd.R_types HO345.out BK445.out (by decide)) (fun _ hk => hk.2) (.int .i64 t439)) (fun _ hk => hk.2) (.int .i64 t440)) (fun _ hk => hk.2) (.slice Ao113 t441.length co113)) (fun _ hk => ⟨hk.1.1.1.1.1.2, hk.1.2⟩)⟩, ⟨by (with_reducible repeat (first | apply Kd.R_alloc | apply Kd.R_drewN | apply Kd.R_drew)); exact Kd.R_mono (Kd.R_far (p := ⟨gb445, 2, none⟩) (Kd.R_far (p := ⟨gb445, 1, none⟩) (Kd.R_far (p := ⟨gb445, 0, none⟩) (Kd.R_types HO443.out BK445.out (by decide)) (fun _ hk => hk.2) (.int .i64 t439)) (fun _ hk => hk.2) (.int .i64 t440)) (fun _ hk => hk.2) (.slice Ao113 t441.length co113)) (fun _ hk => ⟨hk.1.1.1.1.1.2, hk.1.1.1.1.2⟩)⟩, ⟨bko gb332 (by rfl)⟩, ⟨bko gb336 (by rfl)⟩, ⟨bko gb340 (by rfl)⟩, ⟨bko gb347 (by rfl)⟩, ⟨bko gb351 (by rfl)⟩, ⟨bko gb385 (by rfl)⟩, ⟨bko gb405 (by rfl)⟩, ⟨bko gb425 (by rfl)⟩, ⟨bko gb445 (by rfl)⟩, inferInstance⟩
     ·
      rw [if_neg c117] at H
      have c117b0 : (t350 == 0) = false := beq_eq_false_iff_ne.mpr c117
      have c117b1 : (t350 != 0) = true := bne_iff_ne.mpr c117
      have H' := Aside0.mk H
      clear H
      go_wp2
      go_meet
      case rel => exact ⟨_, (true), (by first | rfl | (simp; done) | (simp [*]; done)), H', ⟨by first | omega | exact Nat.le_refl _⟩, ⟨by (with_reducible repeat (first | apply Kd.R_alloc | apply Kd.R_drewN | apply Kd.R_drew)); exact Kd.R_mono (Kd.R_far (p := ⟨gb445, 2, none⟩) (Kd.R_far (p := ⟨gb445, 1, none⟩) (Kd.R_far (p := ⟨gb445, 0, none⟩) (Kd.R_types HO363.out BK445.out (by decide)) (fun _ hk => hk.2) (.int .i64 t439)) (fun _ hk => hk.2) (.int .i64 t440)) (fun _ hk => hk.2) (.slice Ao113 t441.length co113)) (fun _ hk => trivial)⟩, ⟨by (with_reducible repeat (first | apply Kd.R_alloc | apply Kd.R_drewN | apply Kd.R_drew)); exact Kd.R_mono (Kd.R_far (p := ⟨gb445, 2, none⟩) (Kd.R_far (p := ⟨gb445, 1, none⟩) (Kd.R_far (p := ⟨gb445, 0, none⟩) (Kd.R_types HO331.out BK445.out (by decide)) (fun _ hk => hk.2) (.int .i64 t439)) (fun _ hk => hk.2) (.int .i64 t440)) (fun _ hk => hk.2) (.slice Ao113 t441.length co113)) (fun _ hk => ⟨hk.1.1.1.1.1.2, hk.1.2⟩)⟩, ⟨by (with_reducible repeat (first | apply Kd.R_alloc | apply Kd.R_drewN | apply Kd.R_drew)); exact Kd.R_mono (Kd.R_far (p := ⟨gb445, 2, none⟩) (Kd.R_far (p := ⟨gb445, 1, none⟩) (Kd.R_far (p := ⟨gb445, 0, none⟩) (Kd.R_types HO345.out BK445.out (by decide)) (fun _ hk => hk.2) (.int .i64 t439)) (fun _ hk => hk.2) (.int .i64 t440)) (fun _ hk => hk.2) (.slice Ao113 t441.length co113)) (fun _ hk => ⟨hk.1.1.1.1.1.2, hk.1.2⟩)⟩, ⟨by (with_reducible repeat (first | apply Kd.R_alloc | apply Kd.R_drewN | apply Kd.R_drew)); exact Kd.R_mono (Kd.R_far (p := ⟨gb445, 2, none⟩) (Kd.R_far (p := ⟨gb445, 1, none⟩) (Kd.R_far (p := ⟨gb445, 0, none⟩) (Kd.R_types HO443.out BK445.out (by decide)) (fun _ hk => hk.2) (.int .i64 t439)) (fun _ hk => hk.2) (.int .i64 t440)) (fun _ hk => hk.2) (.slice Ao113 t441.length co113)) (fun _ hk => ⟨hk.1.1.1.1.1.2, hk.1.1.1.1.2⟩)⟩, ⟨bko gb332 (by rfl)⟩, ⟨bko gb336 (by rfl)⟩, ⟨bko gb340 (by rfl)⟩, ⟨bko gb347 (by rfl)⟩, ⟨bko gb351 (by rfl)⟩, ⟨bko gb385 (by rfl)⟩, ⟨bko gb405 (by rfl)⟩, ⟨bko gb425 (by rfl)⟩, ⟨bko gb445 (by rfl)⟩, inferInstance⟩
    ·
     rw [if_neg c116] at H
     have c116b0 : (t346 == 0) = false := beq_eq_false_iff_ne.mpr c116
     have c116b1 : (t346 != 0) = true := bne_iff_ne.mpr c116
     have H' := Aside0.mk H
     clear H
     go_wp2
     go_meet
     case rel => exact ⟨_, (true), (by first | rfl | (simp; done) | (simp [*]; done)), H', ⟨by first | omega | exact Nat.le_refl _⟩, ⟨by (with_reducible repeat (first | apply Kd.R_alloc | apply Kd.R_drewN | apply Kd.R_drew)); exact Kd.R_mono (Kd.R_far (p := ⟨gb445, 2, none⟩) (Kd.R_far (p := ⟨gb445, 1, none⟩) (Kd.R_far (p := ⟨gb445, 0, none⟩) (Kd.R_types HO363.out BK445.out (by decide)) (fun _ hk => hk.2) (.int .i64 t439)) (fun _ hk => hk.2) (.int .i64 t440)) (fun _ hk => hk.2) (.slice Ao113 t441.length co113)) (fun _ hk => trivial)⟩, ⟨by (with_reducible repeat (first | apply Kd.R_alloc | apply Kd.R_drewN | apply Kd.R_drew)); exact Kd.R_mono (Kd.R_far (p := ⟨gb445, 2, none⟩) (Kd.R_far (p := ⟨gb445, 1, none⟩) (Kd.R_far (p := ⟨gb445, 0, none⟩) (Kd.R_types HO331.out BK445.out (by decide)) (fun _ hk => hk.2) (.int .i64 t439)) (fun _ hk => hk.2) (.int .i64 t440)) (fun _ hk => hk.2) (.slice Ao113 t441.length co113)) (fun _ hk => ⟨hk.1.1.1.1.1.2, hk.1.2⟩)⟩, ⟨by (with_reducible repeat (first | apply Kd.R_alloc | apply Kd.R_drewN | apply Kd.R_drew)); exact Kd.R_mono (Kd.R_far (p := ⟨gb445, 2, none⟩) (Kd.R_far (p := ⟨gb445, 1, none⟩) (Kd.R_far (p := ⟨gb445, 0, none⟩) (Kd.R_types HO345.out BK445.out (by decide)) (fun _ hk => hk.2) (.int .i64 t439)) (fun _ hk => hk.2) (.int .i64 t440)) (fun _ hk => hk.2) (.slice Ao113 t441.length co113)) (fun _ hk => ⟨hk.1.1.1.1.1.2, hk.1.2⟩)⟩, ⟨by (with_reducible repeat (first | apply Kd.R_alloc | apply Kd.R_drewN | apply Kd.R_drew)); exact Kd.R_mono (Kd.R_far (p := ⟨gb445, 2, none⟩) (Kd.R_far (p := ⟨gb445, 1, none⟩) (Kd.R_far (p := ⟨gb445, 0, none⟩) (Kd.R_types HO443.out BK445.out (by decide)) (fun _ hk => hk.2) (.int .i64 t439)) (fun _ hk => hk.2) (.int .i64 t440)) (fun _ hk => hk.2) (.slice Ao113 t441.length co113)) (fun _ hk => ⟨hk.1.1.1.1.1.2, hk.1.1.1.1.2⟩)⟩, ⟨bko gb332 (by rfl)⟩, ⟨bko gb336 (by rfl)⟩, ⟨bko gb340 (by rfl)⟩, ⟨bko gb347 (by rfl)⟩, ⟨bko gb351 (by rfl)⟩, ⟨bko gb385 (by rfl)⟩, ⟨bko gb405 (by rfl)⟩, ⟨bko gb425 (by rfl)⟩, ⟨bko gb445 (by rfl)⟩, inferInstance⟩
   ·
    rw [if_neg c115] at H
    have c115b0 : (t339 == 0) = false := beq_eq_false_iff_ne.mpr c115
    have c115b1 : (t339 != 0) = true := bne_iff_ne.mpr c115
    have H' := Aside0.mk H
    clear H
    go_wp2
    go_meet
    case rel => exact ⟨_, (true), (by first | rfl | (simp; done) | (simp [*]; done)), H', ⟨by first | omega | exact Nat.le_refl _⟩, ⟨by (with_reducible repeat (first | apply Kd.R_alloc | apply Kd.R_drewN | apply Kd.R_drew)); exact Kd.R_mono (Kd.R_far (p := ⟨gb445, 2, none⟩) (Kd.R_far (p := ⟨gb445, 1, none⟩) (Kd.R_far (p := ⟨gb445, 0, none⟩) (Kd.R_types HO363.out BK445.out (by decide)) (fun _ hk => hk.2) (.int .i64 t439)) (fun _ hk => hk.2) (.int .i64 t440)) (fun _ hk => hk.2) (.slice Ao113 t441.length co113)) (fun _ hk => trivial)⟩, ⟨by (with_reducible repeat (first | apply Kd.R_alloc | apply Kd.R_drewN | apply Kd.R_drew)); exact Kd.R_mono (Kd.R_far (p := ⟨gb445, 2, none⟩) (Kd.R_far (p := ⟨gb445, 1, none⟩) (Kd.R_far (p := ⟨gb445, 0, none⟩) (Kd.R_types HO331.out BK445.out (by decide)) (fun _ hk => hk.2) (.int .i64 t439)) (fun _ hk => hk.2) (.int .i64 t440)) (fun _ hk => hk.2) (.slice Ao113 t441.length co113)) (fun _ hk => ⟨hk.1.1.1.1.1.2, hk.1.2⟩)⟩, ⟨by (with_reducible repeat (first | apply Kd.R_alloc | apply Kd.R_drewN | apply Kd.R_drew)); exact Kd.R_mono (Kd.R_far (p := ⟨gb445, 2, none⟩) (Kd.R_far (p := ⟨gb445, 1, none⟩) (Kd.R_far (p := ⟨gb445, 0, none⟩) (Kd.R_types HO345.out BK445.out (by decide)) (fun _ hk => hk.2) (.int .i64 t439)) (fun _ hk => hk.2) (.int .i64 t440)) (fun _ hk => hk.2) (.slice Ao113 t441.length co113)) (fun _ hk => ⟨hk.1.1.1.1.1.2, hk.1.2⟩)⟩, ⟨by (with_reducible repeat (first | apply Kd.R_alloc | apply Kd.R_drewN | apply Kd.R_drew)); exact Kd.R_mono (Kd.R_far (p := ⟨gb445, 2, none⟩) (Kd.R_far (p := ⟨gb445, 1, none⟩) (Kd.R_far (p := ⟨gb445, 0, none⟩) (Kd.R_types HO443.out BK445.out (by decide)) (fun _ hk => hk.2) (.int .i64 t439)) (fun _ hk => hk.2) (.int .i64 t440)) (fun _ hk => hk.2) (.slice Ao113 t441.length co113)) (fun _ hk => ⟨hk.1.1.1.1.1.2, hk.1.1.1.1.2⟩)⟩, ⟨bko gb332 (by rfl)⟩, ⟨bko gb336 (by rfl)⟩, ⟨bko gb340 (by rfl)⟩, ⟨bko gb347 (by rfl)⟩, ⟨bko gb351 (by rfl)⟩, ⟨bko gb385 (by rfl)⟩, ⟨bko gb405 (by rfl)⟩, ⟨bko gb425 (by rfl)⟩, ⟨bko gb445 (by rfl)⟩, inferInstance⟩
  ·
   rw [if_neg c114] at H
   have c114b0 : (t335 == 0) = false := beq_eq_false_iff_ne.mpr c114
   have c114b1 : (t335 != 0) = true := bne_iff_ne.mpr c114
   (first | rw [c114b0] | (simp only [i64_w]; rw [c114b0]) | skip)
   have H' := Aside0.mk H
   clear H
   go_wp2
   go_meet
   case rel => exact ⟨_, (true), (by first | rfl | (simp; done) | (simp [*]; done)), H', ⟨by first | omega | exact Nat.le_refl _⟩, ⟨by (with_reducible repeat (first | apply Kd.R_alloc | apply Kd.R_drewN | apply Kd.R_drew)); exact Kd.R_mono (Kd.R_far (p := ⟨gb445, 2, none⟩) (Kd.R_far (p := ⟨gb445, 1, none⟩) (Kd.R_far (p := ⟨gb445, 0, none⟩) (Kd.R_types HO363.out BK445.out (by decide)) (fun _ hk => hk.2) (.int .i64 t439)) (fun _ hk => hk.2) (.int .i64 t440)) (fun _ hk => hk.2) (.slice Ao113 t441.length co113)) (fun _ hk => trivial)⟩, ⟨by (with_reducible repeat (first | apply Kd.R_alloc | apply Kd.R_drewN | apply Kd.R_drew)); exact Kd.R_mono (Kd.R_far (p := ⟨gb445, 2, none⟩) (Kd.R_far (p := ⟨gb445, 1, none⟩) (Kd.R_far (p := ⟨gb445, 0, none⟩) (Kd.R_types HO331.out BK445.out (by decide)) (fun _ hk => hk.2) (.int .i64 t439)) (fun _ hk => hk.2) (.int .i64 t440)) (fun _ hk => hk.2) (.slice Ao113 t441.length co113)) (fun _ hk => ⟨hk.1.1.1.1.1.2, hk.1.2⟩)⟩, ⟨by (with_reducible repeat (first | apply Kd.R_alloc | apply Kd.R_drewN | apply Kd.R_drew)); exact Kd.R_mono (Kd.R_far (p := ⟨gb445, 2, none⟩) (Kd.R_far (p := ⟨gb445, 1, none⟩) (Kd.R_far (p := ⟨gb445, 0, none⟩) (Kd.R_types HO345.out BK445.out (by decide)) (fun _ hk => hk.2) (.int .i64 t439)) (fun _ hk => hk.2) (.int .i64 t440)) (fun _ hk => hk.2) (.slice Ao113 t441.length co113)) (fun _ hk => ⟨hk.1.1.1.1.1.2, hk.1.2⟩)⟩, ⟨by (with_reducible repeat (first | apply Kd.R_alloc | apply Kd.R_drewN | apply Kd.R_drew)); exact Kd.R_mono (Kd.R_far (p := ⟨gb445, 2, none⟩) (Kd.R_far (p := ⟨gb445, 1, none⟩) (Kd.R_far (p := ⟨gb445, 0, none⟩) (Kd.R_types HO443.out BK445.out (by decide)) (fun _ hk => hk.2) (.int .i64 t439)) (fun _ hk => hk.2) (.int .i64 t440)) (fun _ hk => hk.2) (.slice Ao113 t441.length co113)) (fun _ hk => ⟨hk.1.1.1.1.1.2, hk.1.1.1.1.2⟩)⟩, ⟨bko gb332 (by rfl)⟩, ⟨bko gb336 (by rfl)⟩, ⟨bko gb340 (by rfl)⟩, ⟨bko gb347 (by rfl)⟩, ⟨bko gb351 (by rfl)⟩, ⟨bko gb385 (by rfl)⟩, ⟨bko gb405 (by rfl)⟩, ⟨bko gb425 (by rfl)⟩, ⟨bko gb445 (by rfl)⟩, inferInstance⟩
 case rest =>
  clear HC18
  try clear c1
  try clear c2
  try clear p2
  try clear c3
  try clear c4
  try clear c6
  try clear c7
  try clear c8
  try clear c9
  try clear c10
  try clear c11
  try clear c12
  try clear c13
  try clear c16
  try clear c23
  try clear c25
  try clear c26
  try clear c27
  try clear c29
  try clear c31
  try clear c32
  try clear c35
  try clear c37
  try clear c38
  try clear c39
  try clear c44
  try clear c45
  try clear c46
  try clear c47
  try clear c65
  try clear c66
  try clear c67
  try clear c68
  try clear c69
  try clear c77
  try clear c78
  try clear c79
  try clear c80
  try clear c81
  try clear c82
  try clear c90
  try clear c91
  try clear c92
  try clear c93
  try clear c94
  try clear c95
  try clear c96
  try clear c104
  try clear c105
  try clear c106
  try clear c107
  try clear c108
  try clear c109
  try clear c110
  try clear c111
  try clear c114
  try clear c114b0
  try clear c114b1
  try clear c115
  try clear c115b0
  try clear c115b1
  try clear c116
  try clear c116b0
  try clear c116b1
  try clear c117
  try clear c117b0
  try clear c117b1
  try clear c118
  try clear c118b0
  try clear c118b1
  try clear c119
  try clear c119b0
  try clear c119b1
  try clear c120
  try clear c120b0
  try clear c120b1
  try clear c121
  try clear c121b0
  try clear c121b1
  try clear c122
  try clear c122b0
  try clear c122b1
  obtain ⟨kq, x122_17, rfl, HA, HJ17, HO_10, HO_333002, HO_348002, HO_446002, BK332, BK336, BK340, BK347, BK351, BK385, BK405, BK425, BK445, HB⟩ := hcut
  cases kq with
  | zero => exact absurd HA.out (by simp [snowlinelaw01_sane.j0])
  | succ kj17 =>
   have H := HA.out
   clear HA
   simp only [snowlinelaw01_sane.j0] at H
   by_cases c123 : x122_17 = true
   ·
    subst c123
    rw [if_pos rfl] at H
    exact absurd H (by simp)
   ·
    replace c123 := Bool.eq_false_iff.mpr c123
    subst c123
    rw [if_neg (show ¬ (false = true) by decide)] at H
    by_cases c124 : (!(t333 == (-6)) || (!(t334 == 7))) = true
    ·
     rw [if_pos c124] at H
     have c124b0 : (!(t333 == (-6)) || (!(t334 == 7))) = true := c124
     clear c124
     exact absurd H (by simp)
    ·
     rw [if_neg c124] at H
     have c124b0 : (!(t333 == (-6)) || (!(t334 == 7))) = false := by simpa using c124
     clear c124
     by_cases c125 : (!(t337 == (-12)) || (!(t338 == 12))) = true
     ·
      rw [if_pos c125] at H
      have c125b0 : (!(t337 == (-12)) || (!(t338 == 12))) = true := c125
      clear c125
      exact absurd H (by simp)
     ·
      rw [if_neg c125] at H
      have c125b0 : (!(t337 == (-12)) || (!(t338 == 12))) = false := by simpa using c125
      clear c125
      by_cases c126 : (!(t348 == 2) || (!(t349 == 3))) = true
      ·
       rw [if_pos c126] at H
       have c126b0 : (!(t348 == 2) || (!(t349 == 3))) = true := c126
       clear c126
       exact absurd H (by simp)
      ·
       rw [if_neg c126] at H
       have c126b0 : (!(t348 == 2) || (!(t349 == 3))) = false := by simpa using c126
       clear c126
       by_cases c127 : t364 = true
       ·
        subst c127
        rw [if_pos rfl] at H
        obtain ⟨y446, hy446⟩ : ∃ y_ : List Int, y_ = (([2, 0, 6] : List Int)) := ⟨_, rfl⟩
        replace H : ((slices_Equal_int_int.f kj17 t361 y446).bind fun t449 => (if t449 = true then (if (t382 == 1050 && (t383 == 1055)) = true then (if (t402 == 107 && (t403 == 146)) = true then (if (t422 == 356 && (t423 == 485)) = true then (some (t437.toList == ([115, 104, 101, 101, 116, 32, 49, 32, 50, 32, 49, 48, 32, 49, 49, 32, 48, 32, 49, 48, 32, 49, 48, 48, 32, 49, 48, 32, 51, 48, 48, 47, 50, 48, 48, 47, 49, 49, 53, 53, 47, 52, 48, 47, 53] : List UInt8))) else (some false)) else (some false)) else (some false)) else (some false))) = some true := by first | (rw [hy446]; with_reducible exact H) | (have H2_ := (Option.bind_some _ _).symm.trans H; rw [hy446]; with_reducible exact H2_) | (have H2_ := (Option.bind_some _ _).symm.trans H; with_reducible exact H2_) | with_reducible exact H | (rw [hy446]; exact H) | exact H
        have Ny446 := Aside0.mk (hy446)
        clear hy446
        replace H := Option.bind_eq_some_iff.mp H
        obtain ⟨t449, A1280, H⟩ := H
        have A128 := Aside0.mk (A1280)
        clear A1280
        by_cases c129 : t449 = true
        ·
         subst c129
         rw [if_pos rfl] at H
         by_cases c130 : (t382 == 1050 && (t383 == 1055)) = true
         ·
          rw [if_pos c130] at H
          have c130b0 : (t382 == 1050 && (t383 == 1055)) = true := c130
          (try (have c130b1 : decide (t382 = 1050 && (t383 == 1055)) = true := by simpa using c130))
          (try (have c130b2 : (t382 == 1050 && (t383 == 1055)) = true := by simpa using c130))
          clear c130
          by_cases c131 : (t402 == 107 && (t403 == 146)) = true
          ·
           rw [if_pos c131] at H
           have c131b0 : (t402 == 107 && (t403 == 146)) = true := c131
           (try (have c131b1 : decide (t402 = 107 && (t403 == 146)) = true := by simpa using c131))
           (try (have c131b2 : (t402 == 107 && (t403 == 146)) = true := by simpa using c131))
           clear c131
           by_cases c132 : (t422 == 356 && (t423 == 485)) = true
           ·
            rw [if_pos c132] at H
            have c132b0 : (t422 == 356 && (t423 == 485)) = true := c132
            (try (have c132b1 : decide (t422 = 356 && (t423 == 485)) = true := by simpa using c132))
            (try (have c132b2 : (t422 == 356 && (t423 == 485)) = true := by simpa using c132))
            clear c132
            have H2_ := Option.some.inj H
            clear H
            obtain ⟨hnc133, hnb133⟩ := nn NB332_336
            obtain ⟨hnb134, hnc134⟩ := nn NB336_340
            obtain ⟨hnb135, hnc135⟩ := nn NB336_347
            obtain ⟨hnb136, hnc136⟩ := nn NB336_351
            obtain ⟨hnb137, hnc137⟩ := nn NB336_385
            obtain ⟨hnb138, hnc138⟩ := nn NB336_405
            obtain ⟨hnb139, hnc139⟩ := nn NB336_425
            obtain ⟨hnb140, hnc140⟩ := nn NB336_445
            obtain ⟨hcz141_0, hcz141_1, hfz141_0, hfz141_1⟩ := cz2 BK336
            obtain ⟨hnc142, hnb142⟩ := nn NB332_340
            obtain ⟨hnb143, hnc143⟩ := nn NB340_347
            obtain ⟨hnb144, hnc144⟩ := nn NB340_351
            obtain ⟨hnb145, hnc145⟩ := nn NB340_385
            obtain ⟨hnb146, hnc146⟩ := nn NB340_405
            obtain ⟨hnb147, hnc147⟩ := nn NB340_425
            obtain ⟨hnb148, hnc148⟩ := nn NB340_445
            obtain ⟨hcz149_0, hcz149_1, hfz149_0, hfz149_1⟩ := cz2 BK340
            obtain ⟨hnc150, hnb150⟩ := nn NB332_351
            obtain ⟨hnc151, hnb151⟩ := nn NB347_351
            obtain ⟨hnb152, hnc152⟩ := nn NB351_385
            obtain ⟨hnb153, hnc153⟩ := nn NB351_405
            obtain ⟨hnb154, hnc154⟩ := nn NB351_425
            obtain ⟨hnb155, hnc155⟩ := nn NB351_445
            obtain ⟨hcz156_0, hcz156_1, hfz156_0, hfz156_1⟩ := cz2 BK351
            go_wp2_with (first | ((with_reducible refine gate_dst (N := 142) rfl ?_); (try (refine gate_guard (by rfl) ?_; dsimp only)); refine Kd.R_lit (Kd.int .i64) _ 3 ?hg (N := 142) ?hd (xs := ([2, 0, 6] : List Int)) (inner := [.int .i64 2, .int .i64 0, .int .i64 6]) (ok := fun _ => True) (okp := fun _ => True) ?hr ?hp (fun _ hk => hk) trivial (Below.refl _ _) (Nat.le_refl _) (by simp) ?_; (case hd => rfl); (case hg => rfl); (case hr => first | (go_simp; done) | (go_simp; rfl)); (case hp => exact (Reps.one (show Kd.M (Kd.int .i64) _ _ _ 2 [.int .i64 2] from rfl) (Reps.one (show Kd.M (Kd.int .i64) _ _ _ 0 [.int .i64 0] from rfl) (Reps.one (show Kd.M (Kd.int .i64) _ _ _ 6 [.int .i64 6] from rfl) (Reps.none _ _))))); intro v447 w157 ho158 hb hg_ hnew_; clear hg_ hnew_; (first | rw [← Ny446.out] at ho158 | (simp only [Int.reduceToNat] at ho158; rw [← Ny446.out] at ho158)); have n0_ := Aside0.mk (Kd.R_elder' (by (with_reducible repeat (first | apply Kd.R_alloc | apply Kd.R_drewN | apply Kd.R_drew)); exact HO_10.out) (Kd.R_base ho158) hb); have n4_ := Aside0.mk (Kd.R_lower (Kd.R_new' ho158 (Kd.R_lt (by (with_reducible repeat (first | apply Kd.R_alloc | apply Kd.R_drewN | apply Kd.R_drew)); exact HO_10.out))) (bz w)); replace HO_333002 := rB HO_333002 hb; replace HO_348002 := rB HO_348002 hb; replace HO_446002 := rB HO_446002 hb; replace BK332 := kB gb332 hb; replace BK336 := kB gb336 hb; replace BK340 := kB gb340 hb; replace BK347 := kB gb347 hb; replace BK351 := kB gb351 hb; replace BK385 := kB gb385 hb; replace BK405 := kB gb405 hb; replace BK425 := kB gb425 hb; replace BK445 := kB gb445 hb; replace HB := bS w hb; clear HO_10; have HO_10 := n0_; have HO448 := n4_; clear n0_ n4_ hb ho158; obtain ⟨Ao159, co159, eo159⟩ := Kd.R_slice HO_10.out; subst eo159; obtain ⟨Ao160, co160, eo160⟩ := Kd.R_slice HO448.out; subst eo160) | (go_at_call 37; (with_reducible refine (slices_Equal_int_int.calls kj17 _ _ t361 _ _ y446 true _ ?side1 ?side2 ?side3 ?side4 A128.out).mono ?_); (case side1 => exact cP (Kd.R_reads' HO_10.out).2.2); (case side2 => exact (Kd.R_reads' HO_10.out).2.1); (case side3 => exact cP (Kd.R_reads' HO448.out).2.2); (case side4 => exact (Kd.R_reads' HO448.out).2.1); rintro e w' ⟨rfl, ⟨nd, rfl⟩⟩; obtain ⟨hnc161, hnb161⟩ := nn NB332_385; obtain ⟨hnc162, hnb162⟩ := nn NB347_385; obtain ⟨hnb163, hnc163⟩ := nn NB385_405; obtain ⟨hnb164, hnc164⟩ := nn NB385_425; obtain ⟨hnb165, hnc165⟩ := nn NB385_445; obtain ⟨hcz166_0, hcz166_1, hfz166_0, hfz166_1⟩ := cz2 BK385; obtain ⟨hnc167, hnb167⟩ := nn NB332_405; obtain ⟨hnc168, hnb168⟩ := nn NB347_405; obtain ⟨hnb169, hnc169⟩ := nn NB405_425; obtain ⟨hnb170, hnc170⟩ := nn NB405_445; obtain ⟨hcz171_0, hcz171_1, hfz171_0, hfz171_1⟩ := cz2 BK405; obtain ⟨hnc172, hnb172⟩ := nn NB332_425; obtain ⟨hnc173, hnb173⟩ := nn NB347_425; obtain ⟨hnb174, hnc174⟩ := nn NB425_445; obtain ⟨hcz175_0, hcz175_1, hfz175_0, hfz175_1⟩ := cz2 BK425))
            go_ret
            exact ⟨by first | rfl | (simp [errW_none, errW_some] <;> rfl) | (simp [*, errW_none, errW_some] <;> rfl), bw w⟩
           ·
            rw [if_neg c132] at H
            have c132b0 : (t422 == 356 && (t423 == 485)) = false := by simpa using c132
            (try (have c132b1 : decide (t422 = 356 && (t423 == 485)) = false := by simpa using c132))
            (try (have c132b2 : (t422 == 356 && (t423 == 485)) = false := by simpa using c132))
            (try (have c132b3 : ¬ (t422 = 356 && (t423 == 485)) := by simpa using c132))
            clear c132
            exact absurd H (by simp)
          ·
           rw [if_neg c131] at H
           have c131b0 : (t402 == 107 && (t403 == 146)) = false := by simpa using c131
           (try (have c131b1 : decide (t402 = 107 && (t403 == 146)) = false := by simpa using c131))
           (try (have c131b2 : (t402 == 107 && (t403 == 146)) = false := by simpa using c131))
           (try (have c131b3 : ¬ (t402 = 107 && (t403 == 146)) := by simpa using c131))
           clear c131
           exact absurd H (by simp)
         ·
          rw [if_neg c130] at H
          have c130b0 : (t382 == 1050 && (t383 == 1055)) = false := by simpa using c130
          (try (have c130b1 : decide (t382 = 1050 && (t383 == 1055)) = false := by simpa using c130))
          (try (have c130b2 : (t382 == 1050 && (t383 == 1055)) = false := by simpa using c130))
          (try (have c130b3 : ¬ (t382 = 1050 && (t383 == 1055)) := by simpa using c130))
          clear c130
          exact absurd H (by simp)
        ·
         replace c129 := Bool.eq_false_iff.mpr c129
         subst c129
         rw [if_neg (show ¬ (false = true) by decide)] at H
         exact absurd H (by simp)
       ·
        replace c127 := Bool.eq_false_iff.mpr c127
        subst c127
        rw [if_neg (show ¬ (false = true) by decide)] at H
        exact absurd H (by simp)
end Go.Proofs.YtapijkdgkajoeaaDoor.PF
end
section
namespace Go.Proofs.YtapijkdgkajoeaaDoor.PF
open Go.RowKit Go.Proofs.YtapijkdgkajoeaaDoorW.PrintWords Go.Proofs.YtapijkdgkajoeaaDoorW.PrintMore
set_option maxRecDepth 100000 in
theorem sane_at : snowlinelaw01_sane.f 200 = some true := by kernel_rfl
theorem sane_ev : Ev (fun k => snowlinelaw01_sane.f k) true := Ev.of (fun k => snowlinelaw01_sane.mono k) sane_at
end Go.Proofs.YtapijkdgkajoeaaDoor.PF
end
section
namespace Go.Proofs.YtapijkdgkajoeaaDoor.PF
open Go.RowKit Go.Proofs.YtapijkdgkajoeaaDoorW.PrintWords Go.Proofs.YtapijkdgkajoeaaDoorW.PrintLast Go.Proofs.YtapijkdgkajoeaaDoorW.PrintMore
attribute [local go_sem] max2_int min2_int max_two min_two
set_option linter.unusedVariables false
set_option linter.unusedSimpArgs false
attribute [local go_sem high] ixA103_1
def snowlinelaw01_CourseHistories.j0 : Nat → Int → List Int → List Int → List Int → Bool → Int → Int → List (S26) → Option (Bool)
 | 0, _, _, _, _, _, _, _, _ => none
 | k + 1, x1, x2, x3, x4, x41, x719000, x719001, x719002 => if x41 = true then (some true) else ((course_History.f k x719000 x719001 x719002 x1 x2 x3).bind fun bt720 => ((snowlineref01_History.f k x719000 x719001 x719002 x1 x2 x3).bind fun bt722 => ((course_Extend.f k x719000 x719001 x719002 x1 x2 x3 x4).bind fun bt724 => ((snowlineref01_Extend.f k x719000 x719001 x719002 x1 x2 x3 x4).bind fun bt729 => (if (bt720.1 == bt722.1) = true then (if bt720.2 = bt722.2 then ((slices_Equal_int_int.f k bt724.1 bt729.1).bind fun t734 => (if t734 = true then (if (bt724.2.1 == bt729.2.1) = true then (some (bt724.2.2 == bt729.2.2)) else (some false)) else (some false))) else (some false)) else (some false))))))
def snowlinelaw01_CourseHistories.f (k : Nat) (a0_0 : Int) (a0_1 : Int) (l0_2 : List (S26)) (a1 : Int) (l2 : List Int) (l3 : List Int) (l4 : List Int) : Option (Bool) := (snowlinelaw01_sane.f k).bind fun t719 => (if t719 = true then (if (l0_2.length : Int) > 100 then (snowlinelaw01_CourseHistories.j0 k a1 l2 l3 l4 true a0_0 a0_1 l0_2) else (if (l2.length : Int) > 100 then (snowlinelaw01_CourseHistories.j0 k a1 l2 l3 l4 true a0_0 a0_1 l0_2) else (if (l3.length : Int) > 100 then (snowlinelaw01_CourseHistories.j0 k a1 l2 l3 l4 true a0_0 a0_1 l0_2) else (snowlinelaw01_CourseHistories.j0 k a1 l2 l3 l4 (decide ((l4.length : Int) > 100)) a0_0 a0_1 l0_2)))) else (some false))
set_option maxHeartbeats 8000000 in
set_option maxRecDepth 100000 in
theorem snowlinelaw01_CourseHistories.calls (k : Nat) (a0_0 : Int) (a0_1 : Int) (A0_2 : Option Addr) (c0_2 : Nat) (l0_2 : List (S26)) (a1 : Int) (A2 : Option Addr) (c2 : Nat) (l2 : List Int) (A3 : Option Addr) (c3 : Nat) (l3 : List Int) (A4 : Option Addr) (c4 : Nat) (l4 : List Int) (w : World) (hT : TabH w) (hr0_2 : Kd.C k26 w A0_2 l0_2.length l0_2) (hc0_2 : l0_2.length ≤ c0_2) (hr2 : Kd.C (Kd.int .i64) w A2 l2.length l2) (hc2 : l2.length ≤ c2) (hr3 : Kd.C (Kd.int .i64) w A3 l3.length l3) (hc3 : l3.length ≤ c3) (hr4 : Kd.C (Kd.int .i64) w A4 l4.length l4) (hc4 : l4.length ≤ c4) (h : snowlinelaw01_CourseHistories.f k a0_0 a0_1 l0_2 a1 l2 l3 l4 = some true) :
  Calls Tryd.prog 6 #[.agg #[.int .i64 a0_0, .int .i64 a0_1, .slice A0_2 l0_2.length c0_2], .int .i64 a1, .slice A2 l2.length c2, .slice A3 l3.length c3, .slice A4 l4.length c4] w fun e w' => e = .returned (.bool true) ∧ Below w.heap.size w w' := by
 have hu24 := Tryd.underlying24
 have HR0_2 := Aside0.mk (hr0_2)
 have HC0_2 := Aside0.mk (hc0_2)
 clear hr0_2 hc0_2
 have HR2 := Aside0.mk (hr2)
 have HC2 := Aside0.mk (hc2)
 clear hr2 hc2
 have HR3 := Aside0.mk (hr3)
 have HC3 := Aside0.mk (hc3)
 clear hr3 hc3
 have HR4 := Aside0.mk (hr4)
 have HC4 := Aside0.mk (hc4)
 clear hr4 hc4
 have HB := Bw.mk (Below.refl w.heap.size w)
 have H : ((snowlinelaw01_sane.f k).bind fun t719 => (if t719 = true then (if (l0_2.length : Int) > 100 then (snowlinelaw01_CourseHistories.j0 k a1 l2 l3 l4 true a0_0 a0_1 l0_2) else (if (l2.length : Int) > 100 then (snowlinelaw01_CourseHistories.j0 k a1 l2 l3 l4 true a0_0 a0_1 l0_2) else (if (l3.length : Int) > 100 then (snowlinelaw01_CourseHistories.j0 k a1 l2 l3 l4 true a0_0 a0_1 l0_2) else (snowlinelaw01_CourseHistories.j0 k a1 l2 l3 l4 (decide ((l4.length : Int) > 100)) a0_0 a0_1 l0_2)))) else (some false))) = some true := h
 clear h
 replace H := Option.bind_eq_some_iff.mp H
 obtain ⟨t719, A60, H⟩ := H
 have A6 := Aside0.mk (A60)
 clear A60
 by_cases c7 : t719 = true
 ·
  subst c7
  rw [if_pos rfl] at H
  have HC8 := Aside0.mk (H)
  clear H
  go_enter Tryd.func6, Tryd.ntmps6
  go_upto_region 3 with (first | ((with_reducible refine gate_dst (N := 5) rfl ?_); (try (refine gate_guard (by rfl) ?_; dsimp only)); refine bxE 5 24 #[.int .i64 a0_0, .int .i64 a0_1, .slice A0_2 l0_2.length c0_2] (by rfl) (by rfl) (by first | (go_simp; done) | (go_simp; rfl)) ?_; intro gb718 hg w9 hbox hb; have BK718 := Bk.mk (hbox); have GE718 := eB w hg; replace HB := bS w hb; clear hb hbox hg) | ((with_reducible refine gate_callee (f := 13) rfl ?_); refine goesLM (some 21) rfl rfl Tryd.func13 (by kernel_rfl) rfl #[] rfl (by rfl) ?_; (with_reducible refine (snowlinelaw01_sane.calls k   _ ?side1 A6.out).mono ?_); (case side1 => exact TabH.below hT (bw w)); rintro e w10 ⟨rfl, hb⟩; refine ⟨_, rfl, ?_⟩; replace BK718 := kB gb718 hb; replace HB := bS w hb; (try clear hb)))
  (try simp only [Act.put, List.setIfInBounds_toArray, List.set_cons_zero, List.set_cons_succ])
  go_cut [41] (fun v41 wc => ∃ (kq : Nat) (x41_7 : Bool), v41 = .bool x41_7 ∧ Aside0 (snowlinelaw01_CourseHistories.j0 kq a1 l2 l3 l4 x41_7 a0_0 a0_1 l0_2 = some true) ∧ Aside0 (kq ≤ k) ∧ Bk wc gb718 (.cells #[.int .i64 a0_0, .int .i64 a0_1, (.slice A0_2 l0_2.length c0_2)] 24 (0, 0)) ∧ Bw w wc)
  case first =>
   have H := HC8.out
   clear HC8
   by_cases c11 : (l0_2.length : Int) > 100
   ·
    rw [if_pos c11] at H
    have c11b0 : decide (100 < (l0_2.length : Int)) = true := decide_eq_true c11
    have c11b1 : decide (100 < l0_2.length) = true := decide_eq_true (by omega)
    clear c11
    (first | rw [c11b0] | (simp only [i64_w]; rw [c11b0]) | skip)
    have H' := Aside0.mk H
    clear H
    obtain ⟨hcz12_0, hcz12_1, hcz12_2, hfz12_0, hfz12_1, hfz12_2⟩ := cz3 BK718
    go_wp2
    go_meet
    case rel => exact ⟨_, (true), (by first | rfl | (simp; done) | (simp [*]; done)), H', ⟨by first | omega | exact Nat.le_refl _⟩, inferInstance, inferInstance⟩
   ·
    rw [if_neg c11] at H
    have c11b0 : decide (100 < (l0_2.length : Int)) = false := decide_eq_false c11
    have c11b1 : decide (100 < l0_2.length) = false := decide_eq_false (by omega)
    clear c11
    (first | rw [c11b0] | (simp only [i64_w]; rw [c11b0]) | skip)
    by_cases c13 : (l2.length : Int) > 100
    ·
     rw [if_pos c13] at H
     have c13b0 : decide (100 < (l2.length : Int)) = true := decide_eq_true c13
     have c13b1 : decide (100 < l2.length) = true := decide_eq_true (by omega)
     clear c13
     have H' := Aside0.mk H
     clear H
     obtain ⟨hcz14_0, hcz14_1, hcz14_2, hfz14_0, hfz14_1, hfz14_2⟩ := cz3 BK718
     go_wp2
     go_meet
     case rel => exact ⟨_, (true), (by first | rfl | (simp; done) | (simp [*]; done)), H', ⟨by first | omega | exact Nat.le_refl _⟩, inferInstance, inferInstance⟩
    ·
     rw [if_neg c13] at H
     have c13b0 : decide (100 < (l2.length : Int)) = false := decide_eq_false c13
     have c13b1 : decide (100 < l2.length) = false := decide_eq_false (by omega)
     clear c13
     by_cases c15 : (l3.length : Int) > 100
     ·
      rw [if_pos c15] at H
      have c15b0 : decide (100 < (l3.length : Int)) = true := decide_eq_true c15
      have c15b1 : decide (100 < l3.length) = true := decide_eq_true (by omega)
      clear c15
      have H' := Aside0.mk H
      clear H
      obtain ⟨hcz16_0, hcz16_1, hcz16_2, hfz16_0, hfz16_1, hfz16_2⟩ := cz3 BK718
      go_wp2
      go_meet
      case rel => exact ⟨_, (true), (by first | rfl | (simp; done) | (simp [*]; done)), H', ⟨by first | omega | exact Nat.le_refl _⟩, inferInstance, inferInstance⟩
     ·
      rw [if_neg c15] at H
      have c15b0 : decide (100 < (l3.length : Int)) = false := decide_eq_false c15
      have c15b1 : decide (100 < l3.length) = false := decide_eq_false (by omega)
      clear c15
      have H' := Aside0.mk H
      clear H
      obtain ⟨hcz17_0, hcz17_1, hcz17_2, hfz17_0, hfz17_1, hfz17_2⟩ := cz3 BK718
      go_wp2
      go_meet
      case rel => exact ⟨_, (decide ((l4.length : Int) > 100)), (by first | rfl | (simp; done) | (simp [*]; done)), H', ⟨by first | omega | exact Nat.le_refl _⟩, inferInstance, inferInstance⟩
  case rest =>
   clear HC8
   try clear c1
   try clear c2
   try clear p2
   try clear c3
   try clear c4
   try clear c6
   try clear c7
   try clear c11
   try clear c11b0
   try clear c11b1
   try clear c13
   try clear c13b0
   try clear c13b1
   try clear c15
   try clear c15b0
   try clear c15b1
   obtain ⟨kq, x41_7, rfl, HA, HJ7, BK718, HB⟩ := hcut
   cases kq with
   | zero => exact absurd HA.out (by simp [snowlinelaw01_CourseHistories.j0])
   | succ kj7 =>
    have H := HA.out
    clear HA
    simp only [snowlinelaw01_CourseHistories.j0] at H
    by_cases c18 : x41_7 = true
    ·
     subst c18
     rw [if_pos rfl] at H
     clear H
     go_wp2
     go_ret
     exact ⟨by first | rfl | (simp [errW_none, errW_some] <;> rfl) | (simp [*, errW_none, errW_some] <;> rfl), bw w⟩
    ·
     replace c18 := Bool.eq_false_iff.mpr c18
     subst c18
     rw [if_neg (show ¬ (false = true) by decide)] at H
     replace H := Option.bind_eq_some_iff.mp H
     obtain ⟨⟨t720, t721⟩, A190, H⟩ := H
     have A19 := Aside0.mk (A190)
     clear A190
     replace H := Option.bind_eq_some_iff.mp H
     obtain ⟨⟨t722, t723⟩, A200, H⟩ := H
     have A20 := Aside0.mk (A200)
     clear A200
     replace H := Option.bind_eq_some_iff.mp H
     obtain ⟨⟨t724, t727, t728⟩, A210, H⟩ := H
     have A21 := Aside0.mk (A210)
     clear A210
     replace H := Option.bind_eq_some_iff.mp H
     obtain ⟨⟨t729, t732, t733⟩, A220, H⟩ := H
     have A22 := Aside0.mk (A220)
     clear A220
     by_cases c23 : (t720 == t722) = true
     ·
      rw [if_pos c23] at H
      have c23b0 : (t720 == t722) = true := c23
      (try (have c23b1 : decide (t720 = t722) = true := by simpa using c23))
      (try (have c23b2 : (t720 == t722) = true := by simpa using c23))
      clear c23
      by_cases c24 : t721 = t723
      ·
       rw [if_pos c24] at H
       have c24b0 : (t721 == t723) = true := beq_iff_eq.mpr c24
       have c24b1 : (t721 != t723) = false := bne_eq_false_iff_eq.mpr c24
       clear c24
       replace H := Option.bind_eq_some_iff.mp H
       obtain ⟨t734, A250, H⟩ := H
       have A25 := Aside0.mk (A250)
       clear A250
       by_cases c26 : t734 = true
       ·
        subst c26
        rw [if_pos rfl] at H
        by_cases c27 : (t727 == t732) = true
        ·
         rw [if_pos c27] at H
         have c27b0 : (t727 == t732) = true := c27
         (try (have c27b1 : decide (t727 = t732) = true := by simpa using c27))
         (try (have c27b2 : (t727 == t732) = true := by simpa using c27))
         clear c27
         have H2_ := Option.some.inj H
         clear H
         obtain ⟨hcz28_0, hcz28_1, hcz28_2, hfz28_0, hfz28_1, hfz28_2⟩ := cz3 BK718
         go_wp2_with (first | ((with_reducible refine gate_callee (f := 33) rfl ?_); refine goesLM (some 47) rfl rfl Tryd.func33 (by kernel_rfl) rfl #[.agg #[.int .i64 a0_0, .int .i64 a0_1, .slice A0_2 l0_2.length c0_2], .int .i64 a1, .slice A2 l2.length c2, .slice A3 l3.length c3] rfl (by rfl) ?_; (with_reducible refine (course_History.calls kj7 a0_0 a0_1 _ _ l0_2 a1 _ _ l2 _ _ l3 t720 t721 _ ?side1 ?side2 ?side3 ?side4 ?side5 ?side6 A19.out).mono ?_); (case side1 => exact cP (Kd.C_below HR0_2.out HB.out)); (case side2 => exact HC0_2.out); (case side3 => exact cP (Kd.C_below HR2.out HB.out)); (case side4 => exact HC2.out); (case side5 => exact cP (Kd.C_below HR3.out HB.out)); (case side6 => exact HC3.out); rintro e w29 ⟨rfl, hb⟩; refine ⟨_, rfl, ?_⟩; replace BK718 := kB gb718 hb; replace HB := bS w hb; (try clear hb); obtain ⟨hcz30_0, hcz30_1, hcz30_2, hfz30_0, hfz30_1, hfz30_2⟩ := cz3 BK718) | ((with_reducible refine gate_callee (f := 34) rfl ?_); refine goesLM (some 55) rfl rfl Tryd.func34 (by kernel_rfl) rfl #[.agg #[.int .i64 a0_0, .int .i64 a0_1, .slice A0_2 l0_2.length c0_2], .int .i64 a1, .slice A2 l2.length c2, .slice A3 l3.length c3] rfl (by rfl) ?_; (with_reducible refine (snowlineref01_History.calls kj7 a0_0 a0_1 _ _ l0_2 a1 _ _ l2 _ _ l3 t722 t723 _ ?side1 ?side2 ?side3 ?side4 ?side5 ?side6 A20.out).mono ?_); (case side1 => exact cP (Kd.C_below HR0_2.out HB.out)); (case side2 => exact HC0_2.out); (case side3 => exact cP (Kd.C_below HR2.out HB.out)); (case side4 => exact HC2.out); (case side5 => exact cP (Kd.C_below HR3.out HB.out)); (case side6 => exact HC3.out); rintro e w31 ⟨rfl, hb⟩; refine ⟨_, rfl, ?_⟩; replace BK718 := kB gb718 hb; replace HB := bS w hb; (try clear hb); obtain ⟨hcz32_0, hcz32_1, hcz32_2, hfz32_0, hfz32_1, hfz32_2⟩ := cz3 BK718) | ((with_reducible refine gate_callee (f := 35) rfl ?_); refine goesLM (some 64) rfl rfl Tryd.func35 (by kernel_rfl) rfl #[.agg #[.int .i64 a0_0, .int .i64 a0_1, .slice A0_2 l0_2.length c0_2], .int .i64 a1, .slice A2 l2.length c2, .slice A3 l3.length c3, .slice A4 l4.length c4] rfl (by rfl) ?_; (with_reducible refine (course_Extend.calls kj7 a0_0 a0_1 _ _ l0_2 a1 _ _ l2 _ _ l3 _ _ l4 t724 t727 t728 _ ?side1 ?side2 ?side3 ?side4 ?side5 ?side6 ?side7 ?side8 A21.out).mono ?_); (case side1 => exact cP (Kd.C_below HR0_2.out HB.out)); (case side2 => exact HC0_2.out); (case side3 => exact cP (Kd.C_below HR2.out HB.out)); (case side4 => exact HC2.out); (case side5 => exact cP (Kd.C_below HR3.out HB.out)); (case side6 => exact HC3.out); (case side7 => exact cP (Kd.C_below HR4.out HB.out)); (case side8 => exact HC4.out); rintro e w33 ⟨v725, rfl, ho0, hb⟩; refine ⟨_, rfl, ?_⟩; have n0_ := Aside0.mk (Kd.R_lower ho0 (bz w)); replace BK718 := kB gb718 hb; replace HB := bS w hb; have HO726 := n0_; clear n0_; (try clear hb); (try clear ho0); obtain ⟨hcz34_0, hcz34_1, hcz34_2, hfz34_0, hfz34_1, hfz34_2⟩ := cz3 BK718) | ((with_reducible refine gate_callee (f := 36) rfl ?_); refine goesLM (some 74) rfl rfl Tryd.func36 (by kernel_rfl) rfl #[.agg #[.int .i64 a0_0, .int .i64 a0_1, .slice A0_2 l0_2.length c0_2], .int .i64 a1, .slice A2 l2.length c2, .slice A3 l3.length c3, .slice A4 l4.length c4] rfl (by rfl) ?_; (with_reducible refine (snowlineref01_Extend.calls kj7 a0_0 a0_1 _ _ l0_2 a1 _ _ l2 _ _ l3 _ _ l4 t729 t732 t733 _ ?side1 ?side2 ?side3 ?side4 ?side5 ?side6 ?side7 ?side8 A22.out).mono ?_); (case side1 => exact cP (Kd.C_below HR0_2.out HB.out)); (case side2 => exact HC0_2.out); (case side3 => exact cP (Kd.C_below HR2.out HB.out)); (case side4 => exact HC2.out); (case side5 => exact cP (Kd.C_below HR3.out HB.out)); (case side6 => exact HC3.out); (case side7 => exact cP (Kd.C_below HR4.out HB.out)); (case side8 => exact HC4.out); rintro e w35 ⟨v730, rfl, ho0, hb⟩; refine ⟨_, rfl, ?_⟩; have n0_ := Aside0.mk (Kd.R_elder' (by (with_reducible repeat (first | apply Kd.R_alloc | apply Kd.R_drewN | apply Kd.R_drew)); exact HO726.out) (Kd.R_base ho0) hb); have n1_ := Aside0.mk (Kd.R_lower (Kd.R_new' ho0 (Kd.R_lt (by (with_reducible repeat (first | apply Kd.R_alloc | apply Kd.R_drewN | apply Kd.R_drew)); exact HO726.out))) (bz w)); replace BK718 := kB gb718 hb; replace HB := bS w hb; clear HO726; have HO726 := n0_; have HO731 := n1_; clear n0_ n1_; (try clear hb); (try clear ho0); obtain ⟨Ao36, co36, eo36⟩ := Kd.R_slice HO726.out; subst eo36; obtain ⟨Ao37, co37, eo37⟩ := Kd.R_slice HO731.out; subst eo37) | (go_at_call 37; (with_reducible refine (slices_Equal_int_int.calls kj7 _ _ t724 _ _ t729 true _ ?side1 ?side2 ?side3 ?side4 A25.out).mono ?_); (case side1 => exact cP (Kd.R_reads' HO726.out).2.2); (case side2 => exact (Kd.R_reads' HO726.out).2.1); (case side3 => exact cP (Kd.R_reads' HO731.out).2.2); (case side4 => exact (Kd.R_reads' HO731.out).2.1); rintro e w' ⟨rfl, ⟨nd, rfl⟩⟩))
         go_ret
         exact ⟨by first | rfl | (simp [errW_none, errW_some] <;> rfl) | (simp [*, errW_none, errW_some] <;> rfl), bw w⟩
        ·
         rw [if_neg c27] at H
         have c27b0 : (t727 == t732) = false := by simpa using c27
         (try (have c27b1 : decide (t727 = t732) = false := by simpa using c27))
         (try (have c27b2 : (t727 == t732) = false := by simpa using c27))
         (try (have c27b3 : ¬ (t727 = t732) := by simpa using c27))
         clear c27
         exact absurd H (by simp)
       ·
        replace c26 := Bool.eq_false_iff.mpr c26
        subst c26
        rw [if_neg (show ¬ (false = true) by decide)] at H
        exact absurd H (by simp)
      ·
       rw [if_neg c24] at H
       have c24b0 : (t721 == t723) = false := beq_eq_false_iff_ne.mpr c24
       have c24b1 : (t721 != t723) = true := bne_iff_ne.mpr c24
       exact absurd H (by simp)
     ·
      rw [if_neg c23] at H
      have c23b0 : (t720 == t722) = false := by simpa using c23
      (try (have c23b1 : decide (t720 = t722) = false := by simpa using c23))
      (try (have c23b2 : (t720 == t722) = false := by simpa using c23))
      (try (have c23b3 : ¬ (t720 = t722) := by simpa using c23))
      clear c23
      exact absurd H (by simp)
 ·
  replace c7 := Bool.eq_false_iff.mpr c7
  subst c7
  rw [if_neg (show ¬ (false = true) by decide)] at H
  exact absurd H (by simp)
end Go.Proofs.YtapijkdgkajoeaaDoor.PF
end
section
namespace Go.Proofs.YtapijkdgkajoeaaDoor.PF
open Go.RowKit Go.Proofs.YtapijkdgkajoeaaDoorW.PrintWords Go.Proofs.YtapijkdgkajoeaaDoorW.PrintMore
theorem pureHistories (no rate : Int) (l : List S26) (known : Int) (ds gs more : List Int) : Ev (fun k => snowlinelaw01_CourseHistories.f k no rate l known ds gs more) true := by
  have long : Ev (fun k => snowlinelaw01_CourseHistories.j0 k known ds gs more true no rate l) true := Ev.step (fun k => by simp only [snowlinelaw01_CourseHistories.j0]; rfl) (Ev.now true)
  unfold snowlinelaw01_CourseHistories.f
  refine Ev.bind sane_ev ?_
  by_cases h1 : (l.length : Int) > 100
  · exact Ev.congr (fun k => by rw [if_pos rfl, if_pos h1]) long
  refine Ev.congr (fun k => by rw [if_pos rfl, if_neg h1]) ?_
  by_cases h2 : (ds.length : Int) > 100
  · exact Ev.congr (fun k => by rw [if_pos h2]) long
  refine Ev.congr (fun k => by rw [if_neg h2]) ?_
  by_cases h3 : (gs.length : Int) > 100
  · exact Ev.congr (fun k => by rw [if_pos h3]) long
  refine Ev.congr (fun k => by rw [if_neg h3]) ?_
  by_cases h4 : (more.length : Int) > 100
  · exact Ev.congr (fun k => by rw [decide_eq_true h4]) long
  refine Ev.congr (fun k => by rw [decide_eq_false h4]) ?_
  obtain ⟨r, hr, v1⟩ := course_History_eq no rate l known ds gs (by omega) (by omega)
  obtain ⟨r', hr', v2⟩ := ref_History_eq no rate l known ds gs (by omega) (by omega)
  obtain rfl := hr.same hr'
  obtain ⟨x, hx, v3⟩ := course_Extend_eq no rate l known ds gs more (by omega) (by omega) (by omega)
  obtain ⟨x', hx', v4⟩ := ref_Extend_eq no rate l known ds gs more (by omega) (by omega) (by omega)
  obtain rfl := hx.same hx'
  have b1 : (r.1 == r.1) = true := by simp
  have b2 : (x.2.1 == x.2.1) = true := by simp
  have b3 : (x.2.2 == x.2.2) = true := by simp
  refine Ev.step (fun k => ?_) (f := fun k => (course_History.f k no rate l known ds gs).bind fun a => (snowlineref01_History.f k no rate l known ds gs).bind fun b => (course_Extend.f k no rate l known ds gs more).bind fun c => (snowlineref01_Extend.f k no rate l known ds gs more).bind fun d =>
    if (a.1 == b.1) = true then (if a.2 = b.2 then (slices_Equal_int_int.f k c.1 d.1).bind fun t => (if t = true then (if (c.2.1 == d.2.1) = true then some (c.2.2 == d.2.2) else some false) else some false) else some false) else some false)
    (Ev.bind v1 (Ev.bind v2 (Ev.bind v3 (Ev.bind v4 (Ev.congr (fun k => (if_pos b1).trans (if_pos rfl)) (Ev.bind (equal_refl _ (hx.len (by omega))) (Ev.const ?_)))))))
  · simp only [snowlinelaw01_CourseHistories.j0]
    rw [if_neg (by decide)]
  · exact (if_pos rfl).trans ((if_pos b2).trans (congrArg some b3))
end Go.Proofs.YtapijkdgkajoeaaDoor.PF
end
section
namespace Go.Proofs.YtapijkdgkajoeaaDoor
open Go.ChangeShapes Go.WideShapes Go.ChangeAt Go.RowKit
open PF
set_option maxRecDepth 100000 in
theorem courseHistories_lifted (os : Os) (started : os.Started) (H : Type) (enc : TypeId × Value → H) :
    ReturnsInHanded {} Tryd.checked os 6 .any (fun w args => (Rows.courseHistoriesSpec.pre enc Tryd.prog Tryd.f6 [] false w args ∧ laidMetH Tryd.prog laid3 w) ∧ sizedMet enc Tryd.prog Tryd.f6 (OpenSpec.ofChange Rows.courseHistoriesSpec) false w args)
      (Rows.courseHistoriesSpec.post enc Tryd.prog Tryd.f6 false true false false) := by
  refine returnsInHanded_of_change_and (C := Tryd.checked) (X := fun w _ => laidMetH Tryd.prog laid3 w) (fun _ _ _ hh h => h.of_heap hh) ownNo started (by kernel_rfl) Tryd.func6
    (ChangeSpec.witness_shaped (enc := enc) (C := Tryd.checked) (os := os) (X := fun w _ => laidMetH Tryd.prog laid3 w) false (World.doorLaid Tryd.prog 24 os)
      #[.agg #[.int .i64 0, .int .i64 0, .slice none 0 0], .int .i64 0, .slice none 0 0, .slice none 0 0, .slice none 0 0] 8 rfl (World.shaped_of_RefB (by kernel_rfl) (by kernel_rfl)) (by kernel_rfl) (by kernel_rfl) (by kernel_rfl) (door_met os _)) ?_
  intro W base args ds gs before hval0 hW _ _ hL _
  have hval : ∀ (j : Nat) t v, Tryd.f6.params[j]? = some t → args[j]? = some v → Value.okWide Tryd.prog W .any base t v := hval0
  have hW' := hW
  obtain ⟨p, q, hA0, hV, rfl, hfz, hnd⟩ := hW
  have hA : DataW.TrodAll enc Tryd.prog W 0 (fun _ => true) true Tryd.f6.params.toList args.toList ds p := hA0
  rw [Tryd.params6] at hA hval
  obtain ⟨v0, vs0, d0, ds0, p0, q0, hargs, rfl, rfl, h0, r0⟩ := trodAll_cons hA
  obtain ⟨v1, vs1, d1, ds1, p1, q1, rfl, rfl, rfl, h1, r1⟩ := trodAll_cons r0
  obtain ⟨v2, vs2, d2, ds2, p2, q2, rfl, rfl, rfl, h2, r2⟩ := trodAll_cons r1
  obtain ⟨v3, vs3, d3, ds3, p3, q3, rfl, rfl, rfl, h3, r3⟩ := trodAll_cons r2
  obtain ⟨v4, vs4, d4, ds4, p4, q4, rfl, rfl, rfl, h4, r4⟩ := trodAll_cons r3
  obtain ⟨rfl, rfl, rfl⟩ := trodAll_nil r4
  obtain rfl : args = #[v0, v1, v2, v3, v4] := by cases args; simp_all
  obtain ⟨rfl, rfl⟩ := trodVars_none hV
  have lt0 := argLt h0
  have lt1 := argLt h1
  have lt2 := argLt h2
  have lt3 := argLt h3
  have lt4 := argLt h4
  obtain ⟨no0, rate0, A0, l0, c0, rfl, wa0, wb0, hc0, hC0, wl0⟩ := arg24 (hval 0 24 v0 rfl rfl) h0
  obtain ⟨a1, rfl, wa1⟩ := arg3 (hval 1 3 v1 rfl rfl) h1
  obtain ⟨A2, l2, c2, rfl, hc2, hC2, wl2⟩ := arg51 (hval 2 51 v2 rfl rfl) h2
  obtain ⟨A3, l3, c3, rfl, hc3, hC3, wl3⟩ := arg51 (hval 3 51 v3 rfl rfl) h3
  obtain ⟨A4, l4, c4, rfl, hc4, hC4, wl4⟩ := arg51 (hval 4 51 v4 rfl rfl) h4
  clear hA0 hval0
  obtain ⟨k, hk0⟩ := pureHistories no0 rate0 l0 a1 l2 l3 l4
  have hk := hk0 k (Nat.le_refl k)
  refine (snowlinelaw01_CourseHistories.calls k no0 rate0 A0 c0 l0 a1 A2 c2 l2 A3 c3 l3 A4 c4 l4 W (tab_of_laid hL) hC0 hc0 hC2 hc2 hC3 hc3 hC4 hc4 hk).mono fun e W' ⟨he, bel⟩ => ?_
  subst he
  exact ⟨_, rfl, _, _, _, [], _, [], hW', trodAll_mk1 (shut_bool Tryd.underlying4 _), (trodAll_cons_mk (Below.trod laidOut (by kernel_rfl) (of_decide_eq_true (by kernel_rfl)) h0 bel lt0) (trodAll_cons_mk (Below.trod laidOut (by kernel_rfl) (of_decide_eq_true (by kernel_rfl)) h1 bel lt1) (trodAll_cons_mk (Below.trod laidOut (by kernel_rfl) (of_decide_eq_true (by kernel_rfl)) h2 bel lt2) (trodAll_cons_mk (Below.trod laidOut (by kernel_rfl) (of_decide_eq_true (by kernel_rfl)) h3 bel lt3) (trodAll_cons_mk (Below.trod laidOut (by kernel_rfl) (of_decide_eq_true (by kernel_rfl)) h4 bel lt4) trodAll_mk0))))), rfl, bel.frame _, fun h => by cases h⟩
theorem courseHistories_row_holds : Rows.CourseHistoriesSaid :=
  OpenClaim.holds_of_wide 6 Tryd.f6 rfl rfl rfl rfl rfl rfl rfl ⟨rfl, rfl, rfl, rfl, rfl⟩ rfl rfl rfl rfl rfl (by kernel_rfl) Tryd.func6 (by kernel_rfl)
    (of_decide_eq_true (by kernel_rfl)) (by unfold Func.isWrapper; first | (rw [if_pos (by decide +kernel)]; kernel_rfl) | (rw [if_neg (by decide +kernel)]; exact ⟨rfl, rfl⟩))
    (fun os started H enc _ => courseHistories_lifted os started H enc)
theorem courseHistories_card_holds : Rows.CourseHistoriesCardSaid :=
  Claim7.holds_tied_plain_at .later [] [.data, .data, .data] true (true, "2280f43e37630aca62f1f244f2a23adb94f0c0035697a9b1153db5b69b706103") false
    courseHistories_row_holds (fun _ h => by cases h) (by kernel_rfl) (fun _ h => by cases h) courseHistories_row_tie rfl ⟨rfl, rfl⟩ (by kernel_rfl) rfl
    (fun f fn hf hfn => by
      obtain rfl : f = 6 := Option.some.inj ((show Tryd.prog.funcNamed "snowline/snowlinelaw01.CourseHistories" = some 6 by kernel_rfl).symm.trans hf) |>.symm
      obtain rfl : fn = Tryd.f6 := (Option.some.inj (Tryd.func6.symm.trans hfn)).symm
      exact ⟨by kernel_rfl, fun j t ht => by
        rw [Tryd.params6] at ht
        have hm : t ∈ [24, 3, 51, 51, 51] := by simpa using Array.mem_of_getElem? ht
        have hall : ([24, 3, 51, 51, 51].all fun u => !Tryd.prog.wantsStandIn u) = true := by kernel_rfl
        exact (show Tryd.prog.wantsStandIn t = false by simpa using List.all_eq_true.1 hall t hm)⟩)
    (by kernel_rfl)
end Go.Proofs.YtapijkdgkajoeaaDoor
end
