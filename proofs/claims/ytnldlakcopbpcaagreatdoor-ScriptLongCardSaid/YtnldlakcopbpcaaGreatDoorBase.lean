/- General lemmas: a frame relation on worlds that names the blocks that may be written, and what the package-level variables hold. -/
import Derived.Test.YtnldlakcopbpcaaGreatDoorRows
import Derived.WalkKit
import Derived.WalkSpells
import Derived.WalkLawsBesides
import Derived.Deep.Draws
import Derived.Lib.LaidTab
import Derived.Lib.ItoaNum
import Derived.ChangeAgain
import Derived.MapKept
import Derived.Lib.Strings
import Derived.Lib.IndexBytes
import Derived.Laws.IdiomRangeMap
import Derived.RangeFuncRecord
import Derived.Lib.Hide
namespace Go.Proofs.YtnldlakcopbpcaaGreatDoor
open Go.RowKit

/-- Of the blocks that were there, those outside the list are as they were. -/
structure Fr (S : List Nat) (w w' : World) : Prop where
  os : w'.os = w.os
  tape : w'.tape = w.tape
  output : w'.output = w.output
  size : w.heap.size ≤ w'.heap.size
  block : ∀ k, k < w.heap.size → k ∉ S → w'.heap[k]? = w.heap[k]?

theorem Fr.refl (S : List Nat) (w : World) : Fr S w w := ⟨rfl, rfl, rfl, Nat.le_refl _, fun _ _ _ => rfl⟩

theorem Fr.trans' {S S' T : List Nat} {a b c : World} (h : Fr S a b) (k : Fr S' b c) (hS : ∀ x ∈ S, x ∈ T ∨ a.heap.size ≤ x) (hS' : ∀ x ∈ S', x ∈ T ∨ a.heap.size ≤ x) : Fr T a c :=
  ⟨k.os.trans h.os, k.tape.trans h.tape, k.output.trans h.output, Nat.le_trans h.size k.size, fun i hi hn => by
    have h1 : i ∉ S' := fun hm => by rcases hS' i hm with h' | h'; exact hn h'; omega
    have h0 : i ∉ S := fun hm => by rcases hS i hm with h' | h'; exact hn h'; omega
    rw [k.block i (Nat.lt_of_lt_of_le hi h.size) h1, h.block i hi h0]⟩

theorem Fr.trans {S : List Nat} {a b c : World} (h : Fr S a b) (k : Fr S b c) : Fr S a c := h.trans' k (fun _ hx => .inl hx) (fun _ hx => .inl hx)

theorem Fr.mono {S T : List Nat} {a b : World} (h : Fr S a b) (hS : ∀ x ∈ S, x ∈ T ∨ a.heap.size ≤ x) : Fr T a b :=
  h.trans' (Fr.refl T b) hS (fun _ hx => .inl hx)

theorem Fr.nil {S : List Nat} {a b : World} (h : Fr [] a b) : Fr S a b := h.mono (fun _ hx => by cases hx)

theorem Fr.then {S T : List Nat} {a b c : World} (h : Fr T a b) (k : Fr S b c) (hS : ∀ x ∈ S, x ∈ T ∨ a.heap.size ≤ x) : Fr T a c := h.trans' k (fun _ hx => .inl hx) hS
theorem Fr.then0 {T : List Nat} {a b c : World} (h : Fr T a b) (k : Fr [] b c) : Fr T a c := h.trans' k (fun _ hx => .inl hx) (fun _ hx => by cases hx)

theorem Fr.of_below {w w' : World} (h : Below w.heap.size w w') : Fr [] w w' := ⟨h.os, h.tape, h.output, h.size, fun k hk _ => h.block k hk⟩
theorem Fr.below {S : List Nat} {w w' : World} {B : Nat} (h : Fr S w w') (hB : B ≤ w.heap.size) (hS : ∀ x ∈ S, B ≤ x) : Below B w w' :=
  ⟨h.os, h.tape, h.output, h.size, fun k hk => h.block k (by omega) (fun hm => by have := hS k hm; omega)⟩
theorem Fr.below0 {w w' : World} (h : Fr [] w w') : Below w.heap.size w w' := h.below (Nat.le_refl _) (fun _ hx => by cases hx)

theorem Fr.drew {S : List Nat} {a w : World} (h : Fr S a w) : Fr S a w.drew := ⟨h.os, h.tape, h.output, h.size, h.block⟩
theorem Fr.drewN {S : List Nat} {a w : World} (h : Fr S a w) (n : Nat) : Fr S a (w.drewN n) := ⟨h.os, h.tape, h.output, h.size, h.block⟩
theorem Fr.alloc {S : List Nat} {a w : World} (h : Fr S a w) (o : Obj) : Fr S a (w.alloc o) :=
  h.then0 ⟨rfl, rfl, rfl, by simp, fun k hk _ => Below.heap_alloc _ _ _ hk⟩
theorem Fr.setCell {S : List Nat} {a w : World} (h : Fr S a w) (p : Addr) (v : Value) (hp : p.block ∈ S ∨ a.heap.size ≤ p.block) : Fr S a (w.setCell p v) :=
  h.then (S := [p.block]) ⟨rfl, rfl, rfl, by simp [World.setCell], fun k _ hk => Below.heap_setCell _ _ _ _ (by simpa using hk)⟩ (fun x hx => by simp at hx; subst hx; exact hp)
theorem Fr.grown {S : List Nat} {a w w' : World} {row : Option Nat} (h : Fr S a w) (hg : w.grownBy w' row) (hr : ∀ k, row = some k → k ∈ S ∨ a.heap.size ≤ k) : Fr S a w' :=
  h.then (S := row.toList) ⟨hg.os, hg.tape, hg.output, hg.size, fun k hk hn => hg.block k hk (fun e => hn (by rw [← e]; simp))⟩ (fun x hx => hr x (by simpa using hx))

theorem Fr.cell {S : List Nat} {w w' : World} (h : Fr S w w') {p : Addr} {v : Value} (hv : w.cell? p = some v) (hn : p.block ∉ S) : w'.cell? p = some v := by
  rw [World.cell?_of_block (w := w) (h.block p.block (World.block_lt_of_cell? w p hv) hn)]; exact hv
theorem Fr.cell0 {w w' : World} (h : Fr [] w w') {p : Addr} {v : Value} (hv : w.cell? p = some v) : w'.cell? p = some v := h.cell hv (by simp)
theorem Fr.frozen {S : List Nat} {w w' : World} (h : Fr S w w') {p : Addr} (hp : p.block < w.heap.size) (hn : p.block ∉ S) : w'.frozen? p = w.frozen? p :=
  World.frozen?_of_block (w := w) (h.block p.block hp hn)
theorem Fr.heap {S : List Nat} {w w' : World} (h : Fr S w w') {k : Nat} {o : Obj} (ho : w.heap[k]? = some o) (hn : k ∉ S) : w'.heap[k]? = some o := by
  have hk : k < w.heap.size := (Array.getElem?_eq_some_iff.1 ho).1
  rw [h.block k hk hn]; exact ho

/-- What the walks want of the package-level variables; their blocks lie below B. -/
structure Gl (B : Nat) (w : World) : Prop where
  low : Tryz.prog.low ≤ B
  size : B ≤ w.heap.size
  maxLen : ∃ m, w.cell? ⟨0, 0, none⟩ = some (.int .i64 m)
  tab : Lib.TabIs Tryz.prog w "internal/strconv.uint64pow10" .u64 Lib.pow10Tab
  syn : ∃ tp p, w.var? Tryz.prog "strconv.ErrSyntax" = some #[.iface tp p]
  rng : ∃ tp p, w.var? Tryz.prog "strconv.ErrRange" = some #[.iface tp p]

theorem var?_below' {B : Nat} {W W' : World} {n : String} {cs : Array Value} (h : Below B W W') (hg : ∀ g, Tryz.prog.globalNamed n = some g → g < B) (hv : W.var? Tryz.prog n = some cs) : W'.var? Tryz.prog n = some cs := by
  cases e : Tryz.prog.globalNamed n with
  | none => simp [World.var?, e] at hv
  | some g => exact var?_below h e (hg g e) hv

theorem low_named (n : String) (g : Nat) (h : Tryz.prog.globalNamed n = some g) : g < Tryz.prog.globals.size := by
  unfold Program.globalNamed at h
  split at h
  · rename_i g' e
    have hm : g' ∈ List.filter (fun g => Option.any (fun x => x.name == n) Tryz.prog.globals[g]?) (List.range Tryz.prog.globals.size) := by rw [e]; simp
    have : g' = g := by simpa using h
    subst this
    simpa using (List.mem_filter.1 hm).1
  · cases h

theorem Gl.below {B : Nat} {w w' : World} (h : Gl B w) (hb : Below B w w') : Gl B w' := by
  have hsz : Tryz.prog.globals.size ≤ Tryz.prog.low := of_decide_eq_true (by kernel_rfl)
  have hlow := h.low
  have hlt : ∀ n g, Tryz.prog.globalNamed n = some g → g < B := fun n g e => by have := low_named n g e; omega
  refine ⟨h.low, Nat.le_trans h.size hb.size, ?_, ?_, ?_, ?_⟩
  · obtain ⟨m, hm⟩ := h.maxLen
    exact ⟨m, by rw [hb.cell (p := ⟨0, 0, none⟩) (by have h0 : 0 < Tryz.prog.low := of_decide_eq_true (by kernel_rfl); show 0 < B; omega)]; exact hm⟩
  · exact var?_below' hb (hlt _) h.tab
  · obtain ⟨tp, p, e⟩ := h.syn; exact ⟨tp, p, var?_below' hb (hlt _) e⟩
  · obtain ⟨tp, p, e⟩ := h.rng; exact ⟨tp, p, var?_below' hb (hlt _) e⟩

theorem Gl.fr {B : Nat} {S : List Nat} {w w' : World} (h : Gl B w) (hf : Fr S w w') (hS : ∀ x ∈ S, B ≤ x) : Gl B w' := h.below (hf.below h.size hS)
theorem Gl.fr0 {B : Nat} {w w' : World} (h : Gl B w) (hf : Fr [] w w') : Gl B w' := h.fr hf (fun _ hx => by cases hx)

theorem alloc_putObj (w : World) (o o' : Obj) : (w.alloc o).putObj w.heap.size o' = w.alloc o' := by
  show ({ w with heap := (w.heap.push o).setIfInBounds w.heap.size o' } : World) = { w with heap := w.heap.push o' }
  congr 1
  apply Array.ext_getElem?
  intro i
  rw [Array.getElem?_setIfInBounds, Array.getElem?_push, Array.getElem?_push]
  by_cases h : w.heap.size = i
  · subst h; simp
  · rw [if_neg h, if_neg (Ne.symm h), if_neg (Ne.symm h)]

theorem alloc_heap_new (w : World) (o : Obj) : (w.alloc o).heap[w.heap.size]? = some o := by
  show (w.heap.push o)[w.heap.size]? = _; simp

theorem putObj_frame' {w : World} {r : Nat} {o o' : Obj} (h : w.heap[r]? = some o) : Fr [r] w (w.putObj r o') ∧ (w.putObj r o').heap[r]? = some o' := by
  have hr := (Array.getElem?_eq_some_iff.1 h).1
  refine ⟨⟨rfl, rfl, rfl, by simp [World.putObj], fun k hk hn => ?_⟩, ?_⟩
  · simp only [World.putObj, Array.getElem?_setIfInBounds]; rw [if_neg (by simpa using Ne.symm (by simpa using hn : ¬ k = r))]
  · simp [World.putObj, hr]

theorem ownsRow_fr {S : List Nat} {w w' : World} {base : Nat} {e : TypeId} {size : Nat} {v : Value} {n : Nat} {xs : List Value} (h : w.ownsRow base e size v n xs) (f : Fr S w w') (hn : ∀ g c t fr, v.ownBlock = some g → w.heap[g]? = some (.cells c t fr) → g ∉ S) : w'.ownsRow base e size v n xs := by
  refine ⟨h.1, ?_⟩
  rcases h.2 with h' | ⟨g, cap, cur, rfl, hg, hh, r⟩
  · exact .inl h'
  · exact .inr ⟨g, cap, cur, rfl, hg, f.heap hh (hn g _ _ _ rfl hh), r⟩
theorem ownsRow_fr0 {w w' : World} {base : Nat} {e : TypeId} {size : Nat} {v : Value} {n : Nat} {xs : List Value} (h : w.ownsRow base e size v n xs) (f : Fr [] w w') : w'.ownsRow base e size v n xs :=
  ownsRow_fr h f (fun _ _ _ _ _ _ => by simp)

/-- A store at a key that is not there. -/
theorem run_insert_new {P : Program} {w : World} {mty kt et : TypeId} {d : TypeDesc} {r clock : Nat} {es : Array MapEntry} (key val : Value)
    (hm : P.underlying mty = some (.map kt et)) (hd : P.underlying kt = some d) (hk : MapKept.IsKey d key)
    (hb : w.heap[r]? = some (.map es clock)) (hf : Instr.findNow d key es.toList 0 = some none) :
    (Instr.mapUpdate mty (.map (some r)) key val).run P w = .ok () (w.putObj r (.map (es.push { key := key, val := val, born := clock }) (clock + 1))) := by
  have hc : (Instr.checkKey false 10000 kt key).run P w = .ok () w := MapKept.run_checkKey (k := key) hd hk false 9999
  simp [Instr.mapUpdate, run_underlying hm, MapKept.run_getObj_map hb, hc, MapKept.run_findKey hd hf, MapKept.run_setObj_map _ hb, Result.andThen, World.putObj]

theorem run_insert_last {P : Program} (w : World) {mty kt et : TypeId} {d : TypeDesc} {clock : Nat} {es : Array MapEntry} (key val : Value)
    (hm : P.underlying mty = some (.map kt et)) (hd : P.underlying kt = some d) (hk : MapKept.IsKey d key) (hf : Instr.findNow d key es.toList 0 = some none) :
    (Instr.mapUpdate mty (.map (some w.heap.size)) key val).run P (w.alloc (.map es clock)) = .ok () (w.alloc (.map (es.push { key := key, val := val, born := clock }) (clock + 1))) := by
  rw [run_insert_new key val hm hd hk (alloc_heap_new w _) hf, alloc_putObj]

/-- A look-up that finds. -/
theorem run_lookup_found {P : Program} {w : World} {mty kt et : TypeId} {d : TypeDesc} {r clock : Nat} {es : Array MapEntry} (key : Value) {i : Nat} {v : Value}
    (hm : P.underlying mty = some (.map kt et)) (hd : P.underlying kt = some d) (hk : MapKept.IsKey d key)
    (hb : w.heap[r]? = some (.map es clock)) (hf : Instr.findNow d key es.toList 0 = some (some (i, v))) :
    (Instr.lookup mty (.map (some r)) key false).run P w = .ok v w := by
  have hc : (Instr.checkKey es.isEmpty 10000 kt key).run P w = .ok () w := MapKept.run_checkKey (k := key) hd hk _ 9999
  simp [Instr.lookup, run_underlying hm, MapKept.run_getObj_map hb, hc, MapKept.run_findKey hd hf, Result.andThen]

/-! A range over a map, wherever the iterator lies. -/
theorem run_next_map' {P : Program} {w : World} (ty : TypeId) {k bm since c0 clock : Nat} {seen : Array Nat} {es : Array MapEntry} (hk : w.heap[k]? = some (.mapIter (some bm) since seen c0)) (hb : w.heap[bm]? = some (.map es clock))
    (hold : ∀ x ∈ es.toList, x.born < since) (hsc : since ≤ c0) :
    ((leftOf es seen).size = 0 ∧ (Instr.next (.pointer (some ⟨k, 0, none⟩)) false ty).run P w = .ok (.tuple #[.bool false]) w) ∨
    ∃ e ∈ (leftOf es seen).toList, ∃ w1 : World, Fr [k] w w1 ∧ w1.heap[k]? = some (.mapIter (some bm) since (seen.push e.born) clock) ∧
      (Instr.next (.pointer (some ⟨k, 0, none⟩)) false ty).run P w = .ok (.tuple #[.bool true, e.key, e.val]) w1 := by
  simp only [Instr.next, getObj, Sem.run_bind, Sem.run, hk, hb, Result.andThen, next_test_false seen es since c0 hold hsc, Bool.false_eq_true, if_false]
  unfold leftOf
  have hmem : ∀ x ∈ (Array.filter (fun e => !seen.contains e.born) es).toList, x.born < since := fun x hx => hold x (by simp at hx ⊢; exact hx.1)
  generalize Array.filter (fun e => !seen.contains e.born) es = L at hmem ⊢
  have e1 : L.filter (fun x => decide (x.born < since)) = L := Array.filter_eq_self.2 (fun x hx => by simpa using hmem x (by simpa using hx))
  have e2 : L.filter (fun x => decide (x.born ≥ since)) = #[] := by
    rw [Array.filter_eq_empty_iff]
    intro x hx
    have := hmem x (by simpa using hx)
    simp
    omega
  simp only [e1, e2, Array.append_empty]
  by_cases h0 : L.size = 0
  · left
    have : L = #[] := Array.eq_empty_of_size_eq_zero h0
    subst this
    refine ⟨rfl, ?_⟩
    simp [choose, Sem.run, Question.forced]
  · right
    have hne : L.isEmpty = false := by simp [Array.isEmpty, h0]
    simp only [hne, Bool.false_eq_true, if_false, Array.empty_append, Array.size_map]
    have hch : ∃ (j : Nat) (w1 : World), j < L.size ∧ Fr [k] w w1 ∧ w1.heap = w.heap ∧ (choose (Question.mapNext L.size)).run P w = .ok j w1 := by
      by_cases hf : L.size ≤ 1
      · exact ⟨0, w, by omega, Fr.refl _ _, rfl, by simp [choose, Sem.run, Question.forced, hf]⟩
      · exact ⟨_, w.drew, Nat.mod_lt _ (by omega), (Fr.refl _ _).drew, rfl, by
          simp only [choose, Sem.run, Question.forced, decide_eq_true_eq, hf, if_false, Question.cut]
          rfl⟩
    obtain ⟨j, w1, hj, hfr, hheap, hrun⟩ := hch
    have hk1 : w1.heap[k]? = some (.mapIter (some bm) since seen c0) := by rw [hheap]; exact hk
    refine ⟨L[j], by simp, w1.putObj k (.mapIter (some bm) since (seen.push L[j].born) clock), hfr.trans (putObj_frame' hk1).1, (putObj_frame' hk1).2, ?_⟩
    have hset : ∀ (o' : Obj), (setObj k o').run P w1 = .ok () (w1.putObj k o') := fun o' => by
      simp [setObj, Sem.run, hk1, World.putObj]
    simp only [hrun, Array.getElem?_map, Array.getElem?_eq_getElem hj, Option.map_some, Sem.run_bind, hset, Result.andThen]
    rfl

theorem run_entry_map' {P : Program} {w : World} {k bm since clock : Nat} {seen : Array Nat} {es : Array MapEntry} {e : MapEntry} (hk : w.heap[k]? = some (.mapIter (some bm) since (seen.push e.born) clock)) (hb : w.heap[bm]? = some (.map es clock))
    (he : e ∈ es.toList) (hn : (es.toList.map (·.born)).Nodup) : (Instr.entry (.pointer (some ⟨k, 0, none⟩))).run P w = .ok (.tuple #[e.key, e.val]) w := by
  have hf : es.find? (·.born == e.born) = some e := by rw [← Array.find?_toList]; exact find_born e es.toList hn he
  simp only [Instr.entry, getObj, Sem.run_bind, Sem.run, hk, hb, Result.andThen, Array.back?_push, bne_self_eq_false, Bool.false_eq_true, if_false, hf]
  rfl

theorem toList_ne {a b : ByteArray} (h : ¬ a = b) : (a.toList == b.toList) = false := by
  cases e : (a.toList == b.toList) with
  | false => rfl
  | true =>
    rw [Lib.toList_data, Lib.toList_data] at e
    have e1 : a.data.toList = b.data.toList := by simpa using e
    exact absurd (by obtain ⟨x⟩ := a; obtain ⟨y⟩ := b; have : x = y := by simpa using e1
                     rw [this]) h
theorem iterSeen_of {w : World} {k : Nat} {a : Option Nat} {b c : Nat} {s : Array Nat} (h : w.heap[k]? = some (.mapIter a b s c)) : w.iterSeen k = s := by simp [World.iterSeen, h]
theorem born_inj' : ∀ {l : List MapEntry}, (l.map (·.born)).Nodup → ∀ {x y : MapEntry}, x ∈ l → y ∈ l → x.born = y.born → x = y := by
  intro l hn x y hx hy e
  have h1 := find_born x l hn hx
  have h2 := find_born y l hn hy
  rw [e, h2] at h1
  exact (Option.some.inj h1).symm

theorem two_cells {w : World} {B : Nat} {x0 x1 : Value} (x y : Value) (o : Obj) (d0 : w.cell? ⟨B, 0, none⟩ = some x0) (d1 : w.cell? ⟨B, 1, none⟩ = some x1) :
    (((w.setCell ⟨B, 0, none⟩ x).setCell ⟨B, 1, none⟩ y).alloc o).cell? ⟨B, 0, none⟩ = some x ∧ (((w.setCell ⟨B, 0, none⟩ x).setCell ⟨B, 1, none⟩ y).alloc o).cell? ⟨B, 1, none⟩ = some y := by
  have hB := World.block_lt_of_cell? w _ d0
  have a0 : (w.setCell ⟨B, 0, none⟩ x).cell? ⟨B, 0, none⟩ = some x := World.cell?_setCell_same w _ _ d0
  have a1 : (w.setCell ⟨B, 0, none⟩ x).cell? ⟨B, 1, none⟩ = some x1 := by rw [World.cell?_setCell_other _ _ _ _ (by simp)]; exact d1
  have b1 := World.cell?_setCell_same (w.setCell ⟨B, 0, none⟩ x) ⟨B, 1, none⟩ y a1
  have b0 : ((w.setCell ⟨B, 0, none⟩ x).setCell ⟨B, 1, none⟩ y).cell? ⟨B, 0, none⟩ = some x := by rw [World.cell?_setCell_other _ _ _ _ (by simp)]; exact a0
  exact ⟨((Fr.refl [] _).alloc o).cell0 b0, ((Fr.refl [] _).alloc o).cell0 b1⟩

theorem Fr.cells {S : List Nat} {w w' : World} (h : Fr S w w') : ∀ (q o : Nat), q < w.heap.size → q ∉ S → w'.cell? ⟨q, o, none⟩ = w.cell? ⟨q, o, none⟩ :=
  fun q _ hq hn => World.cell?_of_block (w := w) (h.block q hq hn)
theorem Fr.frozens {S : List Nat} {w w' : World} (h : Fr S w w') : ∀ (q o : Nat), q < w.heap.size → q ∉ S → w'.frozen? ⟨q, o, none⟩ = w.frozen? ⟨q, o, none⟩ :=
  fun q _ hq hn => World.frozen?_of_block (w := w) (h.block q hq hn)
theorem Fr.sizes {S : List Nat} {w w' : World} (h : Fr S w w') : ∀ (q : Nat), q < w.heap.size → q < w'.heap.size := fun _ hq => Nat.lt_of_lt_of_le hq h.size
end Go.Proofs.YtnldlakcopbpcaaGreatDoor
