/- Contract: Read. -/
import Derived.Test.YtnldlakcopbpcaaGreatDoorLines
import Derived.Test.YtnldlakcopbpcaaGreatDoorFew
import Derived.RangeFuncBox
import Derived.Maps.AppendAt
namespace Go.Proofs.YtnldlakcopbpcaaGreatDoor
open Go.RowKit Go.Lib Go.Shelf
attribute [local go_sem] Oper.semAt_some

def actRow (L : List (ActD × Value × Value)) : List Value := L.flatMap fun p => (actCells p.1 p.2.1 p.2.2).toList
theorem actRow_snoc (L : List (ActD × Value × Value)) (p : ActD × Value × Value) : actRow (L ++ [p]) = actRow L ++ (actCells p.1 p.2.1 p.2.2).toList := by simp [actRow]
def Held (B : Nat) (L : List (ActD × Value × Value)) (W : World) : Prop :=
  ∀ p ∈ L, W.ownsRow B 5 1 p.2.1 p.1.bytes.length (p.1.bytes.map u8v) ∧ W.ownsRow B 4 1 p.2.2 p.1.marks.length (p.1.marks.map Value.bool)
def okL (pre : List (Nat × ByteArray)) : Prop := ∀ x ∈ pre, parseE (clip x.2) = 0
def actsL (pre : List (Nat × ByteArray)) : List ActD := pre.map fun x => parseA (clip x.2)

def RI (w : World) (pre : List (Nat × ByteArray)) (W : World) : Prop :=
  ∃ L v, L.map (·.1) = actsL pre ∧ okL pre ∧ Boxed W w.heap.size 22 v ∧ W.ownsRow w.heap.size 35 10 v L.length (actRow L) ∧ Held w.heap.size L W ∧
    Boxed W (w.heap.size + 1) 3 (.int .i64 0) ∧ Boxed W (w.heap.size + 2) 26 (.int .i64 0) ∧ Fr [] w W
def RX (w : World) (c : Code) (pre : List (Nat × ByteArray)) (W : World) : Prop :=
  c = .exit 0 ∧ ∃ p x, pre = p ++ [x] ∧ okL p ∧ parseE (clip x.2) = 380 ∧ Boxed W w.heap.size 22 (.slice none 0 0) ∧ Boxed W (w.heap.size + 1) 3 (.int .i64 (x.1 : Int)) ∧ Boxed W (w.heap.size + 2) 26 (.int .i64 380) ∧ Fr [] w W

theorem boxed_from {B b : Nat} {t : TypeId} {v : Value} {W W' : World} {row : Option Nat} (h : Boxed W b t v) (hg : W.grownBy W' row) (hr : ∀ r, row = some r → B ≤ r ∧ ∃ o : Obj, W.heap[r]? = some o ∧ o.isCells = false) : Boxed W' b t v := by
  refine h.kept hg (fun e => ?_)
  obtain ⟨_, o, ho, hc⟩ := hr b e.symm
  rw [show W.heap[b]? = _ from h] at ho; cases ho; cases hc
theorem own_from {B base : Nat} {e : TypeId} {size : Nat} {v : Value} {n : Nat} {xs : List Value} {W W' : World} {row : Option Nat} (h : W.ownsRow base e size v n xs) (hg : W.grownBy W' row) (hr : ∀ r, row = some r → B ≤ r ∧ ∃ o : Obj, W.heap[r]? = some o ∧ o.isCells = false) : W'.ownsRow base e size v n xs := by
  refine h.kept hg ?_
  rcases h.2 with ⟨rfl, _⟩ | ⟨g, cap, cur, rfl, _, hgb, _⟩
  · exact .inl rfl
  · refine .inr fun e' => ?_
    obtain ⟨_, o, ho, hc⟩ := hr g (by simpa [Value.ownBlock] using e'.symm)
    rw [hgb] at ho; cases ho; cases hc

theorem boxed_fr0 {b : Nat} {t : TypeId} {v : Value} {W W' : World} (h : Boxed W b t v) (f : Fr [] W W') : Boxed W' b t v := f.heap h (by simp)
theorem keeps_fr0 {W W' : World} (f : Fr [] W W') : KeepsOthers W W' := ⟨f.size, fun k o hk _ => f.heap hk (by simp)⟩
theorem held_snoc {B : Nat} {L : List (ActD × Value × Value)} {W : World} {a : ActD} {vb vm : Value} (h : Held B L W) (h1 : W.ownsRow B 5 1 vb a.bytes.length (a.bytes.map u8v)) (h2 : W.ownsRow B 4 1 vm a.marks.length (a.marks.map Value.bool)) : Held B (L ++ [(a, vb, vm)]) W := by
  intro p hp
  rcases List.mem_append.1 hp with hp | hp
  · exact h p hp
  · rw [List.mem_singleton.1 hp]; exact ⟨h1, h2⟩
theorem boxed_put {b D : Nat} {t : TypeId} {v : Value} {W : World} {o : Obj} (h : Boxed W b t v) (hD : W.heap[D]? = some (.deferred (some []))) : Boxed (W.putObj D o) b t v := by
  have hne : b ≠ D := fun e => by subst e; rw [show W.heap[b]? = _ from h] at hD; cases hD
  exact (World.putObj_heap_other hne).trans h
theorem RI_own {B : Nat} (w : World) (hB : w.heap.size ≤ B) : OwnFrom B (RI w) := by
  rintro pre W W' row ⟨L, v, h1, h2, h3, h4, h5, h6, h7, h8⟩ hg hr
  exact ⟨L, v, h1, h2, boxed_from h3 hg hr, own_from h4 hg hr, fun p hp => ⟨own_from (h5 p hp).1 hg hr, own_from (h5 p hp).2 hg hr⟩, boxed_from h6 hg hr, boxed_from h7 hg hr,
    h8.grown hg (fun k hk => .inr (Nat.le_trans hB (hr k hk).1))⟩
theorem RX_own {B : Nat} (w : World) (hB : w.heap.size ≤ B) (c : Code) : OwnFrom B (RX w c) := by
  rintro pre W W' row ⟨hc, p, x, h1, h2, h2', h3, h6, h7, h8⟩ hg hr
  exact ⟨hc, p, x, h1, h2, h2', boxed_from h3 hg hr, boxed_from h6 hg hr, boxed_from h7 hg hr, h8.grown hg (fun k hk => .inr (Nat.le_trans hB (hr k hk).1))⟩

/-- What an append of one act to the boxed slice leaves. -/
theorem app_all {w W w1 : World} {L : List (ActD × Value × Value)} {v v' : Value} (p : ActD × Value × Value) (tmp : Obj)
    (bv : Boxed W w.heap.size 22 v) (hrow : W.ownsRow w.heap.size 35 10 v L.length (actRow L)) (hheld : Held w.heap.size (L ++ [p]) W) (b1 : Boxed W (w.heap.size + 1) 3 (.int .i64 0)) (b2 : Boxed W (w.heap.size + 2) 26 (.int .i64 0)) (hF : Fr [] w W)
    (hown' : w1.ownsRow w.heap.size 35 10 v' (L.length + 1) (actRow L ++ (actCells p.1 p.2.1 p.2.2).toList)) (hgrow : (W.alloc tmp).grownBy w1 v.ownBlock) :
    Boxed w1 w.heap.size 22 v ∧ Boxed (w1.setCell ⟨w.heap.size, 0, none⟩ v') w.heap.size 22 v' ∧ (w1.setCell ⟨w.heap.size, 0, none⟩ v').ownsRow w.heap.size 35 10 v' (L ++ [p]).length (actRow (L ++ [p])) ∧
      Held w.heap.size (L ++ [p]) (w1.setCell ⟨w.heap.size, 0, none⟩ v') ∧ Boxed (w1.setCell ⟨w.heap.size, 0, none⟩ v') (w.heap.size + 1) 3 (.int .i64 0) ∧ Boxed (w1.setCell ⟨w.heap.size, 0, none⟩ v') (w.heap.size + 2) 26 (.int .i64 0) ∧
      Fr [] w (w1.setCell ⟨w.heap.size, 0, none⟩ v') ∧ KeepsOthers W (w1.setCell ⟨w.heap.size, 0, none⟩ v') ∧ KeepStr W (w1.setCell ⟨w.heap.size, 0, none⟩ v') := by
  obtain ⟨a1, a2, a3, a4, _⟩ := bv.appended (by decide) hrow hF.size (Nat.le_refl _) hown' hgrow
  have hne : ∀ {b : Nat} {t : TypeId} {u : Value}, Boxed W b t u → t ≠ 35 → Boxed w1 b t u := fun h ht => (h.alloc tmp).kept hgrow (h.not_row ht hrow)
  have hset : ∀ {b : Nat} {t : TypeId} {u : Value}, Boxed w1 b t u → b ≠ w.heap.size → Boxed (w1.setCell ⟨w.heap.size, 0, none⟩ v') b t u := fun h hb => h.kept (grownBy_setCell' w1 _ v') (by simpa using hb)
  have hk : ∀ {e : TypeId} {u : Value} {n : Nat} {xs : List Value}, e ≠ 35 → e ≠ 22 → W.ownsRow w.heap.size e 1 u n xs → (w1.setCell ⟨w.heap.size, 0, none⟩ v').ownsRow w.heap.size e 1 u n xs := by
    intro e u n xs he he' h
    have h1 : w1.ownsRow w.heap.size e 1 u n xs := by
      refine (h.alloc tmp).kept hgrow ?_
      rcases h.2 with ⟨rfl, _⟩ | ⟨g, cap, cur, rfl, _, hgb, _⟩
      · exact .inl rfl
      · refine .inr fun e' => ?_
        rcases hrow.2 with ⟨rfl, _⟩ | ⟨g', cap', cur', rfl, _, hgb', _⟩
        · simp [Value.ownBlock] at e'
        · obtain rfl : g = g' := by simpa [Value.ownBlock] using e'
          rw [hgb] at hgb'
          simp at hgb'
          exact he hgb'.2
    exact h1.kept (grownBy_setCell' w1 _ v') (.inr (a1.not_row (Ne.symm he') h1).symm)
  refine ⟨a1, a2, by rw [actRow_snoc, List.length_append]; exact a3, fun q hq => ⟨hk (by decide) (by decide) (hheld q hq).1, hk (by decide) (by decide) (hheld q hq).2⟩, hset (hne b1 (by decide)) (by omega), hset (hne b2 (by decide)) (by omega), ?_, a4, ?_⟩
  · exact ((hF.alloc tmp).grown hgrow (fun k hk => .inr (hrow.lt k hk.symm.symm).1)).setCell _ _ (.inr (Nat.le_refl _))
  · intro k cs hk
    have h1 : w1.heap[k]? = some (.cells cs 9) := by
      have hlt : k < W.heap.size := (Array.getElem?_eq_some_iff.1 hk).1
      have h2 : (W.alloc tmp).heap[k]? = some (.cells cs 9) := (Below.heap_alloc _ _ _ hlt).trans hk
      refine (hgrow.block k (by simp; omega) (fun e => ?_)).trans h2
      rcases hrow.2 with ⟨rfl, _⟩ | ⟨g', cap', cur', rfl, _, hgb', _⟩
      · simp [Value.ownBlock] at e
      · obtain rfl : k = g' := by simpa [Value.ownBlock] using e
        rw [hk] at hgb'; simp at hgb'
    refine ((grownBy_setCell' w1 w.heap.size v').block k (Array.getElem?_eq_some_iff.1 h1).1 (fun e => ?_)).trans h1
    obtain rfl : k = w.heap.size := by simpa using e
    rw [show w1.heap[w.heap.size]? = _ from a1] at h1
    simp at h1

theorem three_set {W : World} {bo : Nat} {u1 u2 u3 : Value} {t1 t2 t3 : TypeId} (g1 : Boxed W bo t1 u1) (g2 : Boxed W (bo + 1) t2 u2) (g3 : Boxed W (bo + 2) t3 u3) (x1 x2 x3 : Value) (o : Obj) :
    Boxed ((((W.setCell ⟨bo, 0, none⟩ x1).setCell ⟨bo + 1, 0, none⟩ x2).setCell ⟨bo + 1 + 1, 0, none⟩ x3).alloc o) bo t1 x1 ∧ Boxed ((((W.setCell ⟨bo, 0, none⟩ x1).setCell ⟨bo + 1, 0, none⟩ x2).setCell ⟨bo + 1 + 1, 0, none⟩ x3).alloc o) (bo + 1) t2 x2 ∧
    Boxed ((((W.setCell ⟨bo, 0, none⟩ x1).setCell ⟨bo + 1, 0, none⟩ x2).setCell ⟨bo + 1 + 1, 0, none⟩ x3).alloc o) (bo + 2) t3 x3 ∧
    Fr [bo, bo + 1, bo + 2] W ((((W.setCell ⟨bo, 0, none⟩ x1).setCell ⟨bo + 1, 0, none⟩ x2).setCell ⟨bo + 1 + 1, 0, none⟩ x3).alloc o) ∧
    KeepsOthers W ((((W.setCell ⟨bo, 0, none⟩ x1).setCell ⟨bo + 1, 0, none⟩ x2).setCell ⟨bo + 1 + 1, 0, none⟩ x3).alloc o) := by
  have k : ∀ {W : World} {b b' : Nat} {t : TypeId} {u : Value} (x : Value), Boxed W b t u → b ≠ b' → Boxed (W.setCell ⟨b', 0, none⟩ x) b t u := fun x h hb => h.kept (grownBy_setCell' _ _ x) (by simpa using hb)
  refine ⟨(k _ (k _ (g1.set x1) (by omega)) (by omega)).alloc o, (k _ ((k _ g2 (by omega)).set x2) (by omega)).alloc o, ((k _ (k _ g3 (by omega)) (by omega)).set x3).alloc o, ?_, ?_⟩
  · exact ((((Fr.refl _ W).setCell _ _ (.inl (by simp))).setCell _ _ (.inl (by simp))).setCell _ _ (.inl (by simp))).alloc o
  · exact (((KeepsOthers.setCell W _ _).trans (KeepsOthers.setCell _ _ _)).trans (KeepsOthers.setCell _ _ _)).trans (KeepsOthers.alloc _ _)

theorem three_drew {W : World} {bo D : Nat} {u1 u2 u3 : Value} {t1 t2 t3 : TypeId} (g1 : Boxed W bo t1 u1) (g2 : Boxed W (bo + 1) t2 u2) (g3 : Boxed W (bo + 2) t3 u3) (x1 x2 x3 : Value) (hD : W.heap[D]? = some (.deferred (some []))) :
    Boxed (((W.setCell ⟨bo, 0, none⟩ x1).setCell ⟨bo + 1, 0, none⟩ x2).setCell ⟨bo + 1 + 1, 0, none⟩ x3).drew bo t1 x1 ∧ Boxed (((W.setCell ⟨bo, 0, none⟩ x1).setCell ⟨bo + 1, 0, none⟩ x2).setCell ⟨bo + 1 + 1, 0, none⟩ x3).drew (bo + 1) t2 x2 ∧
    Boxed (((W.setCell ⟨bo, 0, none⟩ x1).setCell ⟨bo + 1, 0, none⟩ x2).setCell ⟨bo + 1 + 1, 0, none⟩ x3).drew (bo + 2) t3 x3 ∧
    Fr [bo, bo + 1, bo + 2] W (((W.setCell ⟨bo, 0, none⟩ x1).setCell ⟨bo + 1, 0, none⟩ x2).setCell ⟨bo + 1 + 1, 0, none⟩ x3).drew ∧
    (((W.setCell ⟨bo, 0, none⟩ x1).setCell ⟨bo + 1, 0, none⟩ x2).setCell ⟨bo + 1 + 1, 0, none⟩ x3).drew.heap[D]? = some (.deferred (some [])) := by
  have k : ∀ {W : World} {b b' : Nat} {t : TypeId} {u : Value} (x : Value), Boxed W b t u → b ≠ b' → Boxed (W.setCell ⟨b', 0, none⟩ x) b t u := fun x h hb => h.kept (grownBy_setCell' _ _ x) (by simpa using hb)
  have f : Fr [bo, bo + 1, bo + 2] W (((W.setCell ⟨bo, 0, none⟩ x1).setCell ⟨bo + 1, 0, none⟩ x2).setCell ⟨bo + 1 + 1, 0, none⟩ x3).drew := ((((Fr.refl _ W).setCell _ _ (.inl (by simp))).setCell _ _ (.inl (by simp))).setCell _ _ (.inl (by simp))).drew
  refine ⟨(k _ (k _ (g1.set x1) (by omega)) (by omega)), (k _ ((k _ g2 (by omega)).set x2) (by omega)), ((k _ (k _ g3 (by omega)) (by omega)).set x3), f, f.heap hD ?_⟩
  intro hm
  have n1 : D ≠ bo := fun e => by subst e; rw [show W.heap[D]? = _ from g1] at hD; cases hD
  have n2 : D ≠ bo + 1 := fun e => by subst e; rw [show W.heap[bo + 1]? = _ from g2] at hD; cases hD
  have n3 : D ≠ bo + 2 := fun e => by subst e; rw [show W.heap[bo + 2]? = _ from g3] at hD; cases hD
  simp at hm; omega

theorem info35 : (Tryz.prog.info? 35).map (fun i => (i.zero, i.size, i.bytes)) = some (some (.agg #[.int .i64 0, .int .i64 0, .int .i64 0, .int .i64 0, .string ⟨#[]⟩, .string ⟨#[]⟩, .int .i64 0, .int .i64 0, .slice none 0 0, .slice none 0 0]), 10, 128) := by kernel_rfl
theorem cells_new (w : World) (cs : Array Value) (t : TypeId) : ∀ j u, cs.toList[j]? = some u → (w.alloc (.cells cs t)).cell? ((⟨w.heap.size, 0, none⟩ : Addr).add j) = some u := by
  intro j u hj
  have h := cell_of_row (w.alloc (.cells cs t)) w.heap.size j cs t (0, 0) (alloc_heap_new w _)
  have e : ((⟨w.heap.size, 0, none⟩ : Addr).add j) = ⟨w.heap.size, j, none⟩ := by cases j <;> simp [Addr.add]
  rw [e, h]; simpa using hj

theorem cells_new2 (W : World) (o : Obj) (cs : Array Value) (t : TypeId) : ∀ j u, cs.toList[j]? = some u → ((W.alloc o).alloc (.cells cs t)).cell? ((⟨W.heap.size + 1, 0, none⟩ : Addr).add j) = some u := by
  have := cells_new (W.alloc o) cs t
  rwa [World.size_alloc] at this
theorem act_one (a : ActD) (p1 p2 : Option Addr) (n1 l1 n2 l2 : Nat) : ∀ u ∈ (actCells a (.slice p1 n1 l1) (.slice p2 n2 l2)).toList, u.oneCell' = true := by
  intro u hu
  simp only [actCells, List.mem_cons, List.mem_nil_iff, or_false] at hu
  rcases hu with rfl | rfl | rfl | rfl | rfl | rfl | rfl | rfl | rfl | rfl <;> rfl

theorem actRow_at : ∀ (L : List (ActD × Value × Value)) (i : Nat) (h : i < L.length) (j : Nat), j < 10 → (actRow L)[i * 10 + j]? = (actCells L[i].1 L[i].2.1 L[i].2.2).toList[j]?
  | p :: L, 0, _, j, hj => by
    simp only [actRow, List.flatMap_cons, Nat.zero_mul, Nat.zero_add, List.getElem_cons_zero]
    rw [List.getElem?_append_left (by simpa [actCells] using hj)]
  | p :: L, i + 1, h, j, hj => by
    have ih := actRow_at L i (by simpa using h) j hj
    simp only [actRow, List.flatMap_cons, List.getElem_cons_succ] at ih ⊢
    rw [List.getElem?_append_right (by simp [actCells]; omega), ← ih]
    congr 1
    simp [actCells]; omega
theorem acts_of_own {W : World} {B : Nat} {L : List (ActD × Value × Value)} {v : Value} (h : W.ownsRow B 35 10 v L.length (actRow L)) (hh : Held B L W) : ActsAt W v (L.map (·.1)) := by
  obtain ⟨h1, h2⟩ := h
  rcases h2 with ⟨rfl, h0⟩ | ⟨g, cap, cur, rfl, _, hg, _, _, _, ht⟩
  · have : L = [] := List.length_eq_zero_iff.1 h0
    subst this
    exact .inl ⟨rfl, none, 0, rfl⟩
  · refine .inr ⟨g, 0, cap, by simp, fun i hi => ?_⟩
    have hi' : i < L.length := by simpa using hi
    have key : ∀ (j : Nat) (u : Value), j < 10 → (actCells L[i].1 L[i].2.1 L[i].2.2).toList[j]? = some u → W.cell? ⟨g, 0 + i * 10 + j, none⟩ = some u := by
      intro j u hj hu
      rw [cell_of_row _ _ _ _ _ _ hg, Nat.zero_add, ← Array.getElem?_toList]
      rw [← actRow_at L i hi' j hj, ← ht, List.getElem?_take_of_lt (by omega)] at hu
      exact hu
    have e : (L.map (·.1))[i] = L[i].1 := by simp
    rw [e]
    obtain ⟨o1, o2⟩ := hh _ (List.getElem_mem hi')
    exact ⟨L[i].2.1, L[i].2.2, RowAt.of_own (by simpa using o1), RowAt.of_own (by simpa using o2), key 0 _ (by decide) rfl, key 1 _ (by decide) rfl, key 2 _ (by decide) rfl, key 3 _ (by decide) rfl, key 4 _ (by decide) rfl,
      key 5 _ (by decide) rfl, key 6 _ (by decide) rfl, key 7 _ (by decide) rfl, key 8 _ (by decide) rfl, key 9 _ (by decide) rfl⟩
theorem own_three {W W' : World} {bo B : Nat} {u1 u2 u3 v : Value} {e : TypeId} {size n : Nat} {xs : List Value} (h : W.ownsRow B e size v n xs) (f : Fr [bo, bo + 1, bo + 2] W W') (g1 : Boxed W bo 22 u1) (g2 : Boxed W (bo + 1) 3 u2) (g3 : Boxed W (bo + 2) 26 u3) (h1 : e ≠ 22) (h2 : e ≠ 3) (h3 : e ≠ 26) :
    W'.ownsRow B e size v n xs := by
  refine ownsRow_fr h f (fun g c t fr hg hc hm => ?_)
  have n1 := own_ne h g1 h1.symm g c t fr hg hc
  have n2 := own_ne h g2 h2.symm g c t fr hg hc
  have n3 := own_ne h g3 h3.symm g c t fr hg hc
  simp at hm n1 n2 n3; omega
theorem Fr.putObj {W w : World} (h : Fr [] w W) {D : Nat} (hD : w.heap.size ≤ D) (o : Obj) : Fr [] w (W.putObj D o) :=
  h.then (S := [D]) ⟨rfl, rfl, rfl, by simp [World.putObj], fun k _ hk => by simp only [World.putObj, Array.getElem?_setIfInBounds]; rw [if_neg (fun e => hk (by simp [e]))]⟩ (fun x hx => .inr (by simp at hx; omega))

def RdPost (text : ByteArray) (w : World) (e : Ending) (w' : World) : Prop :=
  (∃ v, e = .returned (.tuple #[v, .int .i64 0, .int .i64 0]) ∧ ActsAt w' v (actsL (lns 0 (nlS text))) ∧ okL (lns 0 (nlS text)) ∧ Fr [] w w') ∨
  (∃ p x, (p ++ [x]) <+: lns 0 (nlS text) ∧ okL p ∧ parseE (clip x.2) = 380 ∧ e = .returned (.tuple #[.slice none 0 0, .int .i64 (x.1 : Int), .int .i64 380]) ∧ Fr [] w w')

set_option maxRecDepth 100000 in
set_option maxHeartbeats 2000000 in
theorem read_any {B : Nat} (text : ByteArray) (w : World) (hG : Gl B w) (hs : text.size ≤ 65536) (hn : (lns 0 (nlS text)).length ≤ 2000) : Calls Tryz.prog 11 #[.string text] w (RdPost text w) := by
  have t1 : decide ((65536 : Int) < (text.size : Int)) = false := decide_eq_false (by omega)
  have hmf : ∀ (fn : Fn) (first cap : Array Value) (w : World), (Instr.makeFunc fn first cap).run Tryz.prog w = .ok (.func fn first cap) w := fun _ _ _ _ => rfl
  refine callsIn_wide.1 (callsIn_of_wp_marks (n := 6) Tryz.func11 rfl trivial ?_ rfl)
  refine wpIn_wide.2 ?_
  simp only [Tryz.ntmps11, List.size_toArray, List.length_cons, List.length_nil, Nat.reduceAdd, Nat.reduceSub, Array.replicate_succ, Array.replicate_zero, List.push_toArray, List.append_toArray, List.nil_append, List.cons_append]
  go_wp2_with fail
  go_step3
  go_wp2_with fail
  go_step3
  go_wp2_with fail
  refine (lines_any text _).mono ?_
  rintro e w1 ⟨rfl, rfl⟩
  go_wp2_with fail
  have q1 : Boxed (((((w.alloc (.cells #[.slice none 0 0] 22)).alloc (.cells #[.int .i64 0] 3)).alloc (.cells #[.int .i64 0] 26)).alloc (.cells #[.string text] 9))) w.heap.size 22 (.slice none 0 0) := (((Boxed.new w 22 _).alloc _).alloc _).alloc _
  have q2 : Boxed (((((w.alloc (.cells #[.slice none 0 0] 22)).alloc (.cells #[.int .i64 0] 3)).alloc (.cells #[.int .i64 0] 26)).alloc (.cells #[.string text] 9))) (w.heap.size + 1) 3 (.int .i64 0) := by
    have := Boxed.new (w.alloc (.cells #[.slice none 0 0] 22)) 3 (.int .i64 0)
    rw [World.size_alloc] at this
    exact (this.alloc _).alloc _
  have q3 : Boxed (((((w.alloc (.cells #[.slice none 0 0] 22)).alloc (.cells #[.int .i64 0] 3)).alloc (.cells #[.int .i64 0] 26)).alloc (.cells #[.string text] 9))) (w.heap.size + 2) 26 (.int .i64 0) := by
    have := Boxed.new ((w.alloc (.cells #[.slice none 0 0] 22)).alloc (.cells #[.int .i64 0] 3)) 26 (.int .i64 0)
    rw [World.size_alloc, World.size_alloc] at this
    exact this.alloc _
  have q4 : (((((w.alloc (.cells #[.slice none 0 0] 22)).alloc (.cells #[.int .i64 0] 3)).alloc (.cells #[.int .i64 0] 26)).alloc (.cells #[.string text] 9))).cell? ⟨w.heap.size + 1 + 1 + 1, 0, none⟩ = some (.string text) := by
    have := Boxed.new (((w.alloc (.cells #[.slice none 0 0] 22)).alloc (.cells #[.int .i64 0] 3)).alloc (.cells #[.int .i64 0] 26)) 9 (.string text)
    rw [World.size_alloc, World.size_alloc, World.size_alloc] at this
    exact this.cell
  have qf : Fr [] w (((((w.alloc (.cells #[.slice none 0 0] 22)).alloc (.cells #[.int .i64 0] 3)).alloc (.cells #[.int .i64 0] 26)).alloc (.cells #[.string text] 9))) := ((((Fr.refl [] w).alloc _).alloc _).alloc _).alloc _
  generalize ((((w.alloc (.cells #[.slice none 0 0] 22)).alloc (.cells #[.int .i64 0] 3)).alloc (.cells #[.int .i64 0] 26)).alloc (.cells #[.string text] 9)) = w1 at *
  refine wpIn_wide.1 (wpIn_rangeFunc_ownG (n := 6) (w := w1) rfl (by decide) (gf := 34) (lb := #[.pointer (some ⟨w.heap.size + 1 + 1 + 1, 0, none⟩)]) rfl trivial (enters_of Tryz.func34 (by kernel_rfl) rfl)
    (lines_stops 5 (by decide) (w.heap.size + 1 + 1 + 1) text w1 (hG.fr0 qf) (by omega) q4) (fun h k => keepStr_t h k) (fun W l o o' _ ho hc _ => keepStr_b W l o o' ho hc) (Below.refl _ _) (fun _ => rfl)
    (RI w) (RX w) (RI_own w qf.size) (RX_own w qf.size)
    ⟨[], _, rfl, fun _ h => (by cases h), q1, World.ownsRow_nil _ _ _ _, fun _ h => (by cases h), q2, q3, qf⟩
    (fun x => { tmps := #[Value.string text, undef, Value.pointer (some { block := w.heap.size, off := 0 }), Value.pointer (some { block := w.heap.size + 1, off := 0 }), Value.pointer (some { block := w.heap.size + 1 + 1, off := 0 }), .int .i64 (x.1 : Int), .string (clip x.2), undef, undef,
          Value.string text, Value.int IntKind.i64 ↑text.size, Value.bool false, Value.string text,
          Value.func (Fn.func 34) #[] #[Value.pointer (some { block := w.heap.size + 1 + 1 + 1, off := 0 })], .int .i64 (x.1 : Int), .string (clip x.2),
          undef, undef, undef, undef, undef, undef, undef, undef, undef, undef, undef, undef, undef, undef, undef, undef, undef, undef, undef], defers := [] }) ?assign ?body ?done ?stop)
  case assign =>
    intro l x W K hK
    simp only [encL]
    gi_wp2
    exact hK
  case body =>
    rintro l pre x W ⟨L, v, hL, hok, bv, hrow, hheld, b1, b2, hF⟩ hlt
    have hlen : pre.length ≤ 2000 := by omega
    have hLl : L.length = pre.length := by have := congrArg List.length hL; simpa [actsL] using this
    have hcs : (clip x.2).size ≤ 1000000 := by
      unfold clip; split
      · assumption
      · exact Nat.zero_le _
    have HLL := Lib.hid hLl; clear hLl
    have HL := Lib.hid hL; have HO := Lib.hid hok; have HH := Lib.hid hheld; have HR := Lib.hid hrow
    clear hL hok hheld hrow
    generalize hcl : clip x.2 = line at *
    have HC := Lib.hid hcl; clear hcl
    gi_wp2_with (refine ⟨trivial, (CallsIn.inRound l (callsIn_wide.2 (parse_any (B := B) line W (hG.fr0 hF) hcs))).mono ?_⟩; rintro e W1 ⟨vb, vm, rfl, ob, om, hf⟩)
    obtain ⟨p1, l1, rfl⟩ := own_slice ob
    obtain ⟨p2, l2, rfl⟩ := own_slice om
    have HF1 := Lib.hid hf
    obtain ⟨so, sc, rfl⟩ := own_slice HR.out
    have g1 := boxed_fr0 bv hf; have g2 := boxed_fr0 b1 hf; have g3 := boxed_fr0 b2 hf
    have c1 := g1.cell; have c2 := g2.cell; have c3 := g3.cell
    have c4 := g1.frozen; have c5 := g2.frozen; have c6 := g3.frozen
    have c7 := g1.lt; have c8 := g2.lt; have c9 := g3.lt
    have HB := Lib.hid ob; have HM := Lib.hid om
    have G1 := Lib.hid g1; have G2 := Lib.hid g2; have G3 := Lib.hid g3
    clear hf ob om bv b1 b2 g1 g2 g3
    unfold actCells
    by_cases he : parseE line = 0
    · rw [he]
      have HE := Lib.hid he; clear he
      obtain ⟨i0, hi, hz0, hz1, hz2⟩ := info_parts info35
      have hb1 : L.length + 1 ≤ maxLen := by have := HLL.out; have h : 2001 ≤ maxLen := by decide
                                             omega
      have hb2 : (L.length + 1) * 128 ≤ 140737488355328 := by have := HLL.out; omega
      have hb3 : w.heap.size ≤ W1.heap.size + 1 + 1 := by omega
      have H1 := Lib.hid hb1; have H2 := Lib.hid hb2; have H3 := Lib.hid hb3
      clear hb1 hb2 hb3
      gi_wp2_with (gi_at_builtin; refine wpListIn_append_own _ rfl _ _ 22 rfl w.heap.size 35 i0 _ 10 128 Tryz.underlying22 hi hz0 hz1 hz2 rfl (by decide) _ _ _ rfl ((((ownsRow_fr0 HR.out HF1.out).alloc _).alloc _)) ⟨W1.heap.size + 1, 0, none⟩ 1 1 (actCells (parseA line) (.slice p1 (parseA line).bytes.length l1) (.slice p2 (parseA line).marks.length l2)).toList rfl rfl (cells_new2 _ _ _ _) (act_one _ _ _ _ _ _ _) H1.out H2.out (by simp only [World.size_alloc]; exact H3.out) ?_; intro v' w2 hown' hgrow _; obtain ⟨g', cap', rfl⟩ := ownsRow_succ hown'; obtain ⟨k1, k2, k3, k4, k5, k6, k7, k8, k9⟩ := app_all (w := w) (parseA line, .slice p1 (parseA line).bytes.length l1, .slice p2 (parseA line).marks.length l2) _ (G1.out.alloc _) ((ownsRow_fr0 HR.out HF1.out).alloc _) (held_snoc (fun q hq => ⟨(ownsRow_fr0 (HH.out q hq).1 HF1.out).alloc _, (ownsRow_fr0 (HH.out q hq).2 HF1.out).alloc _⟩) (own_up (HB.out.alloc _) hF.size) (own_up (HM.out.alloc _) hF.size)) (G2.out.alloc _) (G3.out.alloc _) ((hF.trans HF1.out).alloc _) hown' hgrow; have m1 := k1.cell; have m2 := k1.frozen; have m3 := k1.lt; have K2 := Lib.hid k2; have K3 := Lib.hid k3; have K4 := Lib.hid k4; have K5 := Lib.hid k5; have K6 := Lib.hid k6; have K7 := Lib.hid k7; have KK : Hid (KeepsFrom w1.heap.size W (w2.setCell ⟨w.heap.size, 0, none⟩ (.slice (some ⟨g', 0, none⟩) (L.length + 1) cap')) ∧ KeepStr W (w2.setCell ⟨w.heap.size, 0, none⟩ (.slice (some ⟨g', 0, none⟩) (L.length + 1) cap'))) := Lib.hid ⟨((keeps_fr0 HF1.out).trans (KeepsOthers.alloc _ _)).trans k8 |>.from _, keepStr_t (keepStr_fr HF1.out (fun _ h => by cases h)) (keepStr_t (keepStr_fr ((Fr.refl [] W1).alloc _) (fun _ h => by cases h)) k9)⟩; clear k1 k2 k3 k4 k5 k6 k7 k8 k9 hown' hgrow)
      refine ⟨KK.out.1, KK.out.2, L ++ [(parseA line, .slice p1 (parseA line).bytes.length l1, .slice p2 (parseA line).marks.length l2)], _, ?_, ?_, K2.out, K3.out, K4.out, K5.out, K6.out, K7.out⟩
      · rw [List.map_append, HL.out]; simp [actsL, HC.out]
      · intro y hy
        rcases List.mem_append.1 hy with hy | hy
        · exact HO.out y hy
        · rw [List.mem_singleton.1 hy, HC.out]; exact HE.out
    · have he' : parseE line = 380 := by unfold parseE at he ⊢; split at he <;> simp_all
      rw [he']
      have HE := Lib.hid he'; clear he he'
      have KF : Hid (KeepsOthers W (W1.alloc (.cells (actCells (parseA line) (.slice p1 (parseA line).bytes.length l1) (.slice p2 (parseA line).marks.length l2)) 35))) := Lib.hid ((keeps_fr0 HF1.out).trans (KeepsOthers.alloc _ _))
      have HW : Hid (Fr [] w W1) := Lib.hid (hF.trans HF1.out)
      gi_wp2
      have X := three_set (bo := w.heap.size) G1.out G2.out G3.out (.slice none 0 0) (.int .i64 (x.1 : Int)) (.int .i64 380) (.cells (actCells (parseA line) (.slice p1 (parseA line).bytes.length l1) (.slice p2 (parseA line).marks.length l2)) 35)
      refine ⟨((keeps_fr0 HF1.out).trans X.2.2.2.2).from _, rfl, pre, x, rfl, HO.out, by rw [HC.out]; exact HE.out, X.1, X.2.1, X.2.2.1, ?_⟩
      exact HW.out.then X.2.2.2.1 (fun y hy => .inr (by simp at hy; omega))
  case done =>
    rintro D ys W hD rfl ⟨L, v, hL, hok, bv, hrow, hheld, b1, b2, hF⟩ hK
    obtain ⟨so, sc, rfl⟩ := own_slice hrow
    have c1 := bv.cell; have c2 := b1.cell; have c3 := b2.cell
    have c4 := bv.frozen; have c5 := b1.frozen; have c6 := b2.frozen
    have hLl : L.length = (lns 0 (nlS text)).length := by have := congrArg List.length hL; simpa [actsL] using this
    have t2 : decide ((2000 : Int) < (L.length : Int)) = false := decide_eq_false (by omega)
    have HL := Lib.hid hL; have HO := Lib.hid hok; have HH := Lib.hid hheld; have HR := Lib.hid hrow; have HK := Lib.hid hK; have HF := Lib.hid hF; have BV := Lib.hid bv; have B1 := Lib.hid b1; have B2 := Lib.hid b2; have HLL := Lib.hid hLl
    clear hL hok hheld hrow hK hF bv b1 b2 hLl
    simp only [Exit.inBlock, Exit.then]
    rename_i hk
    refine hk _ _ ?_
    clear hk
    go_wp2_with fail
    go_region
    obtain ⟨y1, y2, y3, yf, yd⟩ := three_drew BV.out B1.out B2.out (.slice so L.length sc) (.int .i64 0) (.int .i64 0) HK.out
    generalize (((W.setCell ⟨w.heap.size, 0, none⟩ (.slice so L.length sc)).setCell ⟨w.heap.size + 1, 0, none⟩ (.int .i64 0)).setCell ⟨w.heap.size + 1 + 1, 0, none⟩ (.int .i64 0)).drew = W' at *
    have z1 := y1.cell; have z2 := y2.cell; have z3 := y3.cell
    have YF := Lib.hid yf; have YD := Lib.hid yd; have Y1 := Lib.hid y1; have Y2 := Lib.hid y2; have Y3 := Lib.hid y3
    clear yf yd y1 y2 y3 c1 c2 c3 c4 c5 c6
    go_wp2_with fail
    rw [Exit.noGoto_ret]
    refine ⟨by simp, .inl ⟨_, _, rfl, run_takeDeferred YD.out, ?_⟩⟩
    have x1 := (boxed_put (o := .deferred none) Y1.out YD.out).cell; have x2 := (boxed_put (o := .deferred none) Y2.out YD.out).cell; have x3 := (boxed_put (o := .deferred none) Y3.out YD.out).cell
    refine ⟨.tuple #[.slice so L.length sc, .int .i64 0, .int .i64 0], by simp [results, Tryz.results11, go_sem, x1, x2, x3], .inl ⟨_, rfl, ?_, HO.out, ?_⟩⟩
    · rw [← HL.out]
      exact acts_of_own (ownsRow_putObj (own_three HR.out YF.out BV.out B1.out B2.out (by decide) (by decide) (by decide)) _ YD.out rfl)
        (fun q hq => ⟨ownsRow_putObj (own_three (HH.out q hq).1 YF.out BV.out B1.out B2.out (by decide) (by decide) (by decide)) _ YD.out rfl, ownsRow_putObj (own_three (HH.out q hq).2 YF.out BV.out B1.out B2.out (by decide) (by decide) (by decide)) _ YD.out rfl⟩)
    · exact (HF.out.then YF.out (fun y hy => .inr (by simp at hy; omega))).putObj (Nat.le_trans qf.size hD) _
  case stop =>
    rintro D c pre W hD hpre ⟨rfl, p, x, rfl, hok, hx, bv, b1, b2, hF⟩ hK
    have c1 := bv.cell; have c2 := b1.cell; have c3 := b2.cell
    have c4 := bv.frozen; have c5 := b1.frozen; have c6 := b2.frozen
    have HP := Lib.hid hpre; have HX := Lib.hid hx; have HO := Lib.hid hok; have HK := Lib.hid hK; have HF := Lib.hid hF; have BV := Lib.hid bv; have B1 := Lib.hid b1; have B2 := Lib.hid b2
    clear hpre hok hK hF bv b1 b2 hx
    refine wpIn_wide.2 (wp_exit ?_)
    simp only [Exit.inBlock, Exit.then, if_true]
    rename_i hk
    refine hk _ _ ?_
    clear hk
    go_wp2_with fail
    go_region
    obtain ⟨y1, y2, y3, yf, yd⟩ := three_drew BV.out B1.out B2.out (.slice none 0 0) (.int .i64 (x.1 : Int)) (.int .i64 380) HK.out
    generalize (((W.setCell ⟨w.heap.size, 0, none⟩ (.slice none 0 0)).setCell ⟨w.heap.size + 1, 0, none⟩ (.int .i64 (x.1 : Int))).setCell ⟨w.heap.size + 1 + 1, 0, none⟩ (.int .i64 380)).drew = W' at *
    have z1 := y1.cell; have z2 := y2.cell; have z3 := y3.cell
    have YF := Lib.hid yf; have YD := Lib.hid yd; have Y1 := Lib.hid y1; have Y2 := Lib.hid y2; have Y3 := Lib.hid y3
    clear yf yd y1 y2 y3 c1 c2 c3 c4 c5 c6
    go_wp2_with fail
    rw [Exit.noGoto_ret]
    refine ⟨by simp, .inl ⟨_, _, rfl, run_takeDeferred YD.out, ?_⟩⟩
    have x1 := (boxed_put (o := .deferred none) Y1.out YD.out).cell; have x2 := (boxed_put (o := .deferred none) Y2.out YD.out).cell; have x3 := (boxed_put (o := .deferred none) Y3.out YD.out).cell
    refine ⟨.tuple #[.slice none 0 0, .int .i64 (x.1 : Int), .int .i64 380], by simp [results, Tryz.results11, go_sem, x1, x2, x3], .inr ⟨p, x, HP.out, HO.out, HX.out, rfl, ?_⟩⟩
    exact (HF.out.then YF.out (fun y hy => .inr (by simp at hy; omega))).putObj (Nat.le_trans qf.size hD) _
end Go.Proofs.YtnldlakcopbpcaaGreatDoor
