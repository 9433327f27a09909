/- Arguments read as data, opened: slices of bytes, of bools, of acts. -/
import Derived.Test.YtnldlakcopbpcaaGreatDoorRowBase
import Derived.Test.YtnldlakcopbpcaaGreatDoorFew
namespace Go.Proofs.YtnldlakcopbpcaaGreatDoor
open Go.ChangeShapes Go.WideShapes Go.ChangeAt Go.RowKit Go.Lib Go.Deep
section
variable {H : Type} {enc : TypeId × Value → H} {w : World} {base : Nat} {spare : Nat → Bool} {held : Bool}

theorem add_at {w : World} {a : Addr} {i : Nat} {v : Value} (h : w.cell? (a.add i) = some v) : (i = 0 → a = ⟨a.block, a.off, none⟩) ∧ w.cell? ⟨a.block, a.off + i, none⟩ = some v := by
  obtain ⟨b, o, s⟩ := a
  cases i with
  | zero =>
    have e : (⟨b, o, s⟩ : Addr).add 0 = ⟨b, o, s⟩ := by simp [Addr.add]
    rw [e] at h
    have hs := cell_spot h
    subst hs
    exact ⟨fun _ => rfl, h⟩
  | succ i =>
    have e : (⟨b, o, s⟩ : Addr).add (i + 1) = ⟨b, o + (i + 1), none⟩ := by simp [Addr.add]
    rw [e] at h
    exact ⟨fun h => (by cases h), h⟩

theorem open_u8s {fuel : Nat} {cs : List Value} {x : DataW H × List MemPlace} (h : DataW.trod enc Tryz.prog w base spare held fuel 23 cs = some x) : ∃ (v : Value) (l : List Nat), cs = [v] ∧ RowAt w v (l.map u8v) ∧ ∀ n ∈ l, n < 256 := by
  rcases open_slice1 Tryz.underlying23 (by kernel_rfl) h with ⟨h0, _⟩ | ⟨a, len, cap, m, n, V, D, Pl, hc, _, hl, _, hm, _, hi⟩
  · exact ⟨_, [], h0, .inl ⟨rfl, none, 0, rfl⟩, fun _ hn => by cases hn⟩
  · have hlm : len ≤ m := by rw [hm]; split <;> omega
    have key : ∀ i, i < len → ∃ k : Nat, k < 256 ∧ w.cell? (a.add i) = some (u8v k) := fun i hi' => by
      obtain ⟨h1, h2⟩ := hi i (by omega)
      obtain ⟨z, hz, _, hw⟩ := DataW.trod_int Tryz.underlying5 h2
      have hb := bounds_u8 hw
      refine ⟨z.toNat, by omega, ?_⟩
      rw [h1]
      have : V i = .int .u8 z := by simpa using hz
      rw [this]; unfold u8v
      rw [Int.toNat_of_nonneg hb.1]
    obtain ⟨K, hK⟩ := choose_lt (α := Nat) (p := fun i k => k < 256 ∧ w.cell? (a.add i) = some (u8v k)) key
    refine ⟨_, (List.range len).map K, hc, ?_, fun n hn => ?_⟩
    · by_cases h0 : len = 0
      · subst h0; exact .inl ⟨rfl, some a, cap, rfl⟩
      · have ha := (add_at (hK 0 (by omega)).2).1 rfl
        refine .inr ⟨a.block, a.off, cap, by rw [← ha]; simp, fun i hi' => ?_⟩
        have hi2 : i < len := by simpa using hi'
        rw [(add_at (hK i hi2).2).2]; simp
    · obtain ⟨i, hi', rfl⟩ := List.mem_map.1 hn
      exact (hK i (List.mem_range.1 hi')).1

theorem open_bools {fuel : Nat} {cs : List Value} {x : DataW H × List MemPlace} (h : DataW.trod enc Tryz.prog w base spare held fuel 33 cs = some x) : ∃ (v : Value) (l : List Bool), cs = [v] ∧ RowAt w v (l.map Value.bool) := by
  rcases open_slice1 Tryz.underlying33 (by kernel_rfl) h with ⟨h0, _⟩ | ⟨a, len, cap, m, n, V, D, Pl, hc, _, hl, _, hm, _, hi⟩
  · exact ⟨_, [], h0, .inl ⟨rfl, none, 0, rfl⟩⟩
  · have hlm : len ≤ m := by rw [hm]; split <;> omega
    have key : ∀ i, i < len → ∃ k : Bool, w.cell? (a.add i) = some (.bool k) := fun i hi' => by
      obtain ⟨h1, h2⟩ := hi i (by omega)
      obtain ⟨z, hz, _⟩ := DataW.trod_bool Tryz.underlying4 h2
      refine ⟨z, ?_⟩
      rw [h1]
      have : V i = .bool z := by simpa using hz
      rw [this]
    obtain ⟨K, hK⟩ := choose_lt (α := Bool) (p := fun i k => w.cell? (a.add i) = some (.bool k)) key
    refine ⟨_, (List.range len).map K, hc, ?_⟩
    by_cases h0 : len = 0
    · subst h0; exact .inl ⟨rfl, some a, cap, rfl⟩
    · have ha := (add_at (hK 0 (by omega))).1 rfl
      refine .inr ⟨a.block, a.off, cap, by rw [← ha]; simp, fun i hi' => ?_⟩
      have hi2 : i < len := by simpa using hi'
      rw [(add_at (hK i hi2)).2]; simp

/-- An act's integers. -/
structure ActI (a : ActD) : Prop where
  thread : isI64 a.thread
  n : isI64 a.n
  at_ : isI64 a.at_
  opn : isI64 a.opn
  bs : ∀ n ∈ a.bytes, n < 256
theorem ActI.ok {a : ActD} (h : ActI a) (f : FewOk a) : ActOk a := ⟨h.thread, h.n, h.at_, h.opn, f.1, f.2.1, f.2.2.1, h.bs, f.2.2.2⟩

theorem take1 {l : List Value} {j : Nat} {v : Value} (h : (l.drop j).take 1 = [v]) : l[j]? = some v := by
  have := congrArg (·[0]?) h
  simpa [List.getElem?_take, List.getElem?_drop] using this

set_option maxRecDepth 100000 in
theorem open_act {fuel : Nat} {cs : List Value} {x : DataW H × List MemPlace} (h : DataW.trod enc Tryz.prog w base spare held fuel 35 cs = some x) :
    ∃ (a : ActD) (vb vm : Value), cs = (actCells a vb vm).toList ∧ RowAt w vb (a.bytes.map u8v) ∧ RowAt w vm (a.marks.map Value.bool) ∧ ActI a := by
  obtain ⟨xs, n, rfl, _, hlen, hxl, hf⟩ := DataW.trod_struct Tryz.underlying35 h
  have hc35 : Tryz.prog.cellsOf 35 = 10 := by kernel_rfl
  rw [hc35] at hlen
  have get : ∀ (j : Nat), j < 5 → ∃ y, xs[j]? = some y := fun j hj => ⟨xs[j]'(by rw [hxl]; exact hj), List.getElem?_eq_getElem _⟩
  obtain ⟨y0, e0⟩ := get 0 (by decide); obtain ⟨y1, e1⟩ := get 1 (by decide); obtain ⟨y2, e2⟩ := get 2 (by decide); obtain ⟨y3, e3⟩ := get 3 (by decide); obtain ⟨y4, e4⟩ := get 4 (by decide)
  have f0 := hf 0 _ rfl; have f1 := hf 1 _ rfl; have f2 := hf 2 _ rfl; have f3 := hf 3 _ rfl; have f4 := hf 4 _ rfl
  simp only [e0, e1, e2, e3, e4] at f0 f1 f2 f3 f4
  obtain ⟨z0, k0, _, w0⟩ := DataW.trod_int Tryz.underlying29 f0
  obtain ⟨z1, k1, _, w1⟩ := DataW.trod_int Tryz.underlying3 f1
  obtain ⟨z2, k2, _, w2⟩ := DataW.trod_int Tryz.underlying3 f2
  obtain ⟨vm, lm, k9, hM⟩ := open_bools f4
  obtain ⟨ys, n', rfl, _, hlen2, hyl, hg⟩ := DataW.trod_struct Tryz.underlying32 f3
  have get2 : ∀ (j : Nat), j < 6 → ∃ y, ys[j]? = some y := fun j hj => ⟨ys[j]'(by rw [hyl]; exact hj), List.getElem?_eq_getElem _⟩
  obtain ⟨u0, d0⟩ := get2 0 (by decide); obtain ⟨u1, d1⟩ := get2 1 (by decide); obtain ⟨u2, d2⟩ := get2 2 (by decide); obtain ⟨u3, d3⟩ := get2 3 (by decide); obtain ⟨u4, d4⟩ := get2 4 (by decide); obtain ⟨u5, d5⟩ := get2 5 (by decide)
  have g0 := hg 0 _ rfl; have g1 := hg 1 _ rfl; have g2 := hg 2 _ rfl; have g3 := hg 3 _ rfl; have g4 := hg 4 _ rfl; have g5 := hg 5 _ rfl
  simp only [d0, d1, d2, d3, d4, d5] at g0 g1 g2 g3 g4 g5
  obtain ⟨z3, k3, _, w3⟩ := DataW.trod_int Tryz.underlying30 g0
  obtain ⟨s4, k4, _⟩ := DataW.trod_string Tryz.underlying9 g1
  obtain ⟨s5, k5, _⟩ := DataW.trod_string Tryz.underlying9 g2
  obtain ⟨z6, k6, _, w6⟩ := DataW.trod_int Tryz.underlying3 g3
  obtain ⟨z7, k7, _, w7⟩ := DataW.trod_int Tryz.underlying3 g4
  obtain ⟨vb, lb, k8, hB, hb8⟩ := open_u8s g5
  have q0 := take1 k0; have q1 := take1 k1; have q2 := take1 k2; have q9 := take1 k9
  have q3 := take1 k3; have q4 := take1 k4; have q5 := take1 k5; have q6 := take1 k6; have q7 := take1 k7; have q8 := take1 k8
  refine ⟨{ kind := z0, thread := z1, n := z2, opk := z3, path := s4, dest := s5, at_ := z6, opn := z7, bytes := lb, marks := lm }, vb, vm, ?_, hB, hM, ⟨bounds_i64 w1, bounds_i64 w2, bounds_i64 w6, bounds_i64 w7, hb8⟩⟩
  apply List.ext_getElem?
  intro i
  match i with
  | 0 => exact q0
  | 1 => exact q1
  | 2 => exact q2
  | 3 => simp only [List.getElem?_take, List.getElem?_drop, Option.ite_none_right_eq_some] at q3; exact q3.2
  | 4 => simp only [List.getElem?_take, List.getElem?_drop, Option.ite_none_right_eq_some] at q4; exact q4.2
  | 5 => simp only [List.getElem?_take, List.getElem?_drop, Option.ite_none_right_eq_some] at q5; exact q5.2
  | 6 => simp only [List.getElem?_take, List.getElem?_drop, Option.ite_none_right_eq_some] at q6; exact q6.2
  | 7 => simp only [List.getElem?_take, List.getElem?_drop, Option.ite_none_right_eq_some] at q7; exact q7.2
  | 8 => simp only [List.getElem?_take, List.getElem?_drop, Option.ite_none_right_eq_some] at q8; exact q8.2
  | 9 => exact q9
  | i + 10 => rw [List.getElem?_eq_none (by omega), List.getElem?_eq_none (by simp [actCells])]

set_option maxRecDepth 100000 in
theorem open_acts {v : Value} {d : DataW H} {p : List MemPlace} {r : Reach} {b0 : Nat} (hv : Value.okWide Tryz.prog w r b0 22 v) (h : DataW.Trod enc Tryz.prog w base spare held 22 v d p) :
    ∃ l : List ActD, ActsAt w v l ∧ l.length ≤ 9223372036854775807 ∧ ∀ a ∈ l, ActI a := by
  obtain ⟨a0, len0, cap0, rfl⟩ := okWide_slice Tryz.underlying22 hv
  obtain ⟨fuel, hf⟩ := h
  have hc35 : Tryz.prog.cellsOf 35 = 10 := by kernel_rfl
  rcases open_slice Tryz.underlying22 hf with ⟨h0, _⟩ | ⟨a, len, cap, m, n, D, Pl, hc, _, hl, hcap, hm, _, hi⟩
  · have e : Value.slice a0 len0 cap0 = .slice none 0 0 := by simpa [Value.cells] using h0
    exact ⟨[], .inl ⟨rfl, none, 0, e⟩, by simp, fun _ h => by cases h⟩
  · have e : Value.slice a0 len0 cap0 = .slice (some a) len cap := by simpa [Value.cells] using hc
    rw [e]
    have hlm : len ≤ m := by rw [hm]; split <;> omega
    have key : ∀ i, i < len → ∃ q : ActD, ActI q ∧ (0 < len → (i = 0 → a = ⟨a.block, a.off, none⟩) ∧ ActIn w a.block (a.off + i * 10) q) := fun i hi' => by
      obtain ⟨cs', hcs, ht⟩ := hi i (by omega)
      rw [hc35] at hcs
      obtain ⟨q, vb, vm, rfl, hB, hM, hI⟩ := open_act ht
      obtain ⟨_, _, hat⟩ := World.cells?_some hcs
      have cell : ∀ (j : Nat) (u : Value), j < 10 → (actCells q vb vm).toList[j]? = some u → (i * 10 + j = 0 → a = ⟨a.block, a.off, none⟩) ∧ w.cell? ⟨a.block, a.off + i * 10 + j, none⟩ = some u := fun j u hj hu => by
        have h1 := (hat j hj).trans hu
        rw [add_add] at h1
        have h2 := add_at h1
        exact ⟨h2.1, by rw [Nat.add_assoc]; exact h2.2⟩
      exact ⟨q, hI, fun _ => ⟨fun e => (cell 0 _ (by decide) rfl).1 (by omega), vb, vm, hB, hM, (cell 0 _ (by decide) rfl).2, (cell 1 _ (by decide) rfl).2, (cell 2 _ (by decide) rfl).2, (cell 3 _ (by decide) rfl).2, (cell 4 _ (by decide) rfl).2,
        (cell 5 _ (by decide) rfl).2, (cell 6 _ (by decide) rfl).2, (cell 7 _ (by decide) rfl).2, (cell 8 _ (by decide) rfl).2, (cell 9 _ (by decide) rfl).2⟩⟩
    have dflt : Nonempty ActD := ⟨{}⟩
    obtain ⟨K, hK⟩ : ∃ K : Nat → ActD, ∀ i, i < len → ActI (K i) ∧ (0 < len → (i = 0 → a = ⟨a.block, a.off, none⟩) ∧ ActIn w a.block (a.off + i * 10) (K i)) := by
      classical
      refine ⟨fun i => if h : i < len then Classical.choose (key i h) else {}, fun i h => ?_⟩
      simp only [dif_pos h]
      exact Classical.choose_spec (key i h)
    refine ⟨(List.range len).map K, ?_, by simp; exact Nat.le_trans hl hcap, fun q hq => ?_⟩
    · by_cases h0 : len = 0
      · subst h0; exact .inl ⟨rfl, some a, cap, rfl⟩
      · have ha := ((hK 0 (by omega)).2 (by omega)).1 rfl
        refine .inr ⟨a.block, a.off, cap, by rw [← ha]; simp, fun i hi' => ?_⟩
        have hi2 : i < len := by simpa using hi'
        have := ((hK i hi2).2 (by omega)).2
        simpa using this
    · obtain ⟨i, hi', rfl⟩ := List.mem_map.1 hq
      exact (hK i (List.mem_range.1 hi')).1
set_option maxRecDepth 100000 in
theorem open_bytes {v : Value} {d : DataW H} {p : List MemPlace} (h : DataW.Trod enc Tryz.prog w base spare held 23 v d p) {r : Reach} {b0 : Nat} (hv : Value.okWide Tryz.prog w r b0 23 v) : ∃ l : List Nat, RowAt w v (l.map u8v) ∧ ∀ n ∈ l, n < 256 := by
  obtain ⟨a0, len0, cap0, rfl⟩ := okWide_slice Tryz.underlying23 hv
  obtain ⟨fuel, hf⟩ := h
  obtain ⟨v, l, hc, hr, hb⟩ := open_u8s hf
  have e : Value.slice a0 len0 cap0 = v := by simpa [Value.cells] using hc
  exact ⟨l, by rw [e]; exact hr, hb⟩
end
end Go.Proofs.YtnldlakcopbpcaaGreatDoor
