/- Contracts: the closures that read a part of an act. -/
import Derived.Test.YtnldlakcopbpcaaGreatDoorMarks
import Derived.Test.YtnldlakcopbpcaaGreatDoorParts
namespace Go.Proofs.YtnldlakcopbpcaaGreatDoor
open Go.RowKit Go.Lib

structure ActD where
  kind : Int := 0
  thread : Int := 0
  n : Int := 0
  opk : Int := 0
  path : ByteArray := ⟨#[]⟩
  dest : ByteArray := ⟨#[]⟩
  at_ : Int := 0
  opn : Int := 0
  bytes : List Nat := []
  marks : List Bool := []

def i64v (n : Int) : Value := .int .i64 n
def actCells (a : ActD) (vb vm : Value) : Array Value :=
  #[.int .i64 a.kind, .int .i64 a.thread, .int .i64 a.n, .int .i64 a.opk, .string a.path, .string a.dest, .int .i64 a.at_, .int .i64 a.opn, vb, vm]

/-- A block that holds an act, and what its two slices hold. -/
def ActAt (B : Nat) (w : World) (b : Nat) (a : ActD) : Prop :=
  ∃ vb vm, w.heap[b]? = some (.cells (actCells a vb vm) 35) ∧ w.ownsRow B 5 1 vb a.bytes.length (a.bytes.map u8v) ∧ w.ownsRow B 4 1 vm a.marks.length (a.marks.map Value.bool)

theorem own_ne {w : World} {B : Nat} {e : TypeId} {size : Nat} {v : Value} {n : Nat} {xs : List Value} (h : w.ownsRow B e size v n xs) {b : Nat} {cs : Array Value} {t : TypeId} (hb : w.heap[b]? = some (.cells cs t)) (hne : t ≠ e) :
    ∀ g c t' fr, v.ownBlock = some g → w.heap[g]? = some (.cells c t' fr) → g ∉ [b] := by
  intro g c t' fr hg hc hm
  simp only [List.mem_singleton] at hm
  subst hm
  rcases h.2 with ⟨rfl, _⟩ | ⟨g', cap, cur, rfl, _, hh, _⟩
  · simp [Value.ownBlock] at hg
  · simp only [Value.ownBlock, Option.some.injEq] at hg
    subst hg
    rw [hb] at hh
    simp only [Option.some.injEq, Obj.cells.injEq] at hh
    exact hne hh.2.1

theorem ActAt.fr {B : Nat} {w w' : World} {b : Nat} {a : ActD} {S : List Nat} (h : ActAt B w b a) (f : Fr S w w') (hS : ∀ x ∈ S, w.heap.size ≤ x) : ActAt B w' b a := by
  have f0 : Fr [] w w' := f.mono (fun x hx => .inr (hS x hx))
  obtain ⟨vb, vm, h1, h2, h3⟩ := h
  exact ⟨vb, vm, f0.heap h1 (by simp), ownsRow_fr0 h2 f0, ownsRow_fr0 h3 f0⟩
theorem ActAt.fr0 {B : Nat} {w w' : World} {b : Nat} {a : ActD} (h : ActAt B w b a) (f : Fr [] w w') : ActAt B w' b a := h.fr f (by simp)

theorem ActAt.cell {B : Nat} {w : World} {b : Nat} {a : ActD} (h : ActAt B w b a) (j : Nat) (hj : j < 10) : ∃ u, w.cell? ⟨b, j, none⟩ = some u := by
  obtain ⟨vb, vm, h1, _⟩ := h
  refine ⟨(actCells a vb vm)[j]'(by simpa [actCells] using hj), ?_⟩
  rw [cell_of_row w b j _ _ _ h1]
  exact Array.getElem?_eq_getElem _
theorem ActAt.frozen {B : Nat} {w : World} {b : Nat} {a : ActD} (h : ActAt B w b a) (j : Nat) : w.frozen? ⟨b, j, none⟩ = false := by
  obtain ⟨vb, vm, h1, _⟩ := h
  unfold World.frozen?; rw [h1]; simp

theorem heap_setCell_same {w : World} {b j : Nat} {cs : Array Value} {t : TypeId} {fr : Nat × Nat} (h : w.heap[b]? = some (.cells cs t fr)) (v : Value) : (w.setCell ⟨b, j, none⟩ v).heap[b]? = some (.cells (cs.setIfInBounds j v) t fr) := by
  simp [World.setCell, Array.getElem?_modify, h]

/-- A store of a value into the act's own block. -/
theorem ActAt.set {B : Nat} {w : World} {b : Nat} {a a' : ActD} (h : ActAt B w b a) (j : Nat) (v : Value)
    (hc : ∀ vb vm, ∃ vb' vm', (actCells a vb vm).setIfInBounds j v = actCells a' vb' vm' ∧ (w.ownsRow B 5 1 vb a.bytes.length (a.bytes.map u8v) → w.ownsRow B 5 1 vb' a'.bytes.length (a'.bytes.map u8v)) ∧
      (w.ownsRow B 4 1 vm a.marks.length (a.marks.map Value.bool) → w.ownsRow B 4 1 vm' a'.marks.length (a'.marks.map Value.bool))) : ActAt B (w.setCell ⟨b, j, none⟩ v) b a' := by
  obtain ⟨vb, vm, h1, h2, h3⟩ := h
  obtain ⟨vb', vm', e, g2, g3⟩ := hc vb vm
  have f : Fr [b] w (w.setCell ⟨b, j, none⟩ v) := (Fr.refl _ _).setCell _ _ (.inl (by simp))
  exact ⟨vb', vm', by rw [heap_setCell_same h1, e], ownsRow_fr (g2 h2) f (own_ne (g2 h2) h1 (by decide)), ownsRow_fr (g3 h3) f (own_ne (g3 h3) h1 (by decide))⟩

def fill1 (c : Int) (a : ActD) (s : ByteArray) : Option ActD :=
  if c = 116 then (numberS s).map fun v => { a with thread := v }
  else if c = 109 then (numberS s).map fun v => { a with n := v }
  else if c = 97 then (numberS s).map fun v => { a with at_ := v }
  else if c = 110 then (numberS s).map fun v => { a with opn := v }
  else if c = 112 then (if pathS s then some { a with path := s } else none)
  else if c = 113 then (if pathS s then some { a with dest := s } else none)
  else if c = 98 then (bytesS s).map fun v => { a with bytes := v }
  else if c = 107 then (marksS s).map fun v => { a with marks := v }
  else none

def ReadPost (B : Nat) (c : Int) (a : ActD) (s : ByteArray) (b : Nat) (w : World) (e : Ending) (w' : World) : Prop :=
  (∃ a', fill1 c a s = some a' ∧ e = .returned (.tuple #[]) ∧ ActAt B w' b a' ∧ Fr [b] w w') ∨ (fill1 c a s = none ∧ Panic380 e ∧ Fr [b] w w')

theorem field37 (b : Nat) (w : World) : Calls Tryz.prog 37 #[.pointer (some ⟨b, 0, none⟩)] w fun e w' => e = .returned (.pointer (some ⟨b, 1, none⟩)) ∧ w = w' := by
  go_enter Tryz.func37, Tryz.ntmps37
  go_wp2
  go_ret
  exact ⟨rfl, rfl⟩
theorem field38 (b : Nat) (w : World) : Calls Tryz.prog 38 #[.pointer (some ⟨b, 0, none⟩)] w fun e w' => e = .returned (.pointer (some ⟨b, 2, none⟩)) ∧ w = w' := by
  go_enter Tryz.func38, Tryz.ntmps38
  go_wp2
  go_ret
  exact ⟨rfl, rfl⟩
theorem field39 (b : Nat) (w : World) : Calls Tryz.prog 39 #[.pointer (some ⟨b, 0, none⟩)] w fun e w' => e = .returned (.pointer (some ⟨b, 6, none⟩)) ∧ w = w' := by
  go_enter Tryz.func39, Tryz.ntmps39
  go_wp2
  go_ret
  exact ⟨rfl, rfl⟩
theorem field40 (b : Nat) (w : World) : Calls Tryz.prog 40 #[.pointer (some ⟨b, 0, none⟩)] w fun e w' => e = .returned (.pointer (some ⟨b, 7, none⟩)) ∧ w = w' := by
  go_enter Tryz.func40, Tryz.ntmps40
  go_wp2
  go_ret
  exact ⟨rfl, rfl⟩
theorem field42 (b : Nat) (w : World) : Calls Tryz.prog 42 #[.pointer (some ⟨b, 0, none⟩)] w fun e w' => e = .returned (.pointer (some ⟨b, 4, none⟩)) ∧ w = w' := by
  go_enter Tryz.func42, Tryz.ntmps42
  go_wp2
  go_ret
  exact ⟨rfl, rfl⟩
theorem field43 (b : Nat) (w : World) : Calls Tryz.prog 43 #[.pointer (some ⟨b, 0, none⟩)] w fun e w' => e = .returned (.pointer (some ⟨b, 5, none⟩)) ∧ w = w' := by
  go_enter Tryz.func43, Tryz.ntmps43
  go_wp2
  go_ret
  exact ⟨rfl, rfl⟩

/-- What a number's closure does, by the field's function k at offset j. -/
theorem num_read {B : Nat} (k j : Nat) (c : Int) (s : ByteArray) (b bk : Nat) (a : ActD) (f : Int → ActD) (w : World) (hG : Gl B w) (hs : s.size ≤ 1000000) (hk : w.cell? ⟨bk, 0, none⟩ = some (fnv k))
    (henter : ∀ args w, (callFunc k args).run Tryz.prog w = .ok (.enter k args) w)
    (hfield : ∀ w, Calls Tryz.prog k #[.pointer (some ⟨b, 0, none⟩)] w fun e w' => e = .returned (.pointer (some ⟨b, j, none⟩)) ∧ w = w') (hj : j < 10)
    (hA : ActAt B w b a) (hf : fill1 c a s = (numberS s).map f) (hset : ∀ v vb vm, (actCells a vb vm).setIfInBounds j (.int .i64 v) = actCells (f v) vb vm ∧ (f v).bytes = a.bytes ∧ (f v).marks = a.marks) :
    Calls Tryz.prog 55 #[.pointer (some ⟨b, 0, none⟩), .string s, .pointer (some ⟨bk, 0, none⟩)] w (ReadPost B c a s b w) := by
  have hk' : w.cell? ⟨bk, 0, none⟩ = some (.func (.func k) #[] #[]) := hk
  have HF := Lib.hid hf; have HA := Lib.hid hA; have HS := Lib.hid hset; have HFi := Lib.hid hfield; clear hf hA hset hfield hk
  cases hn : numberS s with
  | none =>
    have HN := Lib.hid hn; clear hn
    go_enter Tryz.func55, Tryz.ntmps55
    go_wp2_with fail
    refine (HFi.out _).mono ?_
    rintro e w1 ⟨rfl, rfl⟩
    go_wp2_with fail
    refine (number_no s _ hG hs HN.out).mono ?_
    rintro e w2 ⟨he, hf2⟩
    have hpanic : e = .panicked [{ v := .iface 26 (.int .i64 380), recovered := false }] := he
    subst hpanic
    exact ⟨rfl, .inr ⟨by rw [HF.out, HN.out]; rfl, rfl, hf2.nil⟩⟩
  | some v =>
    have HN := Lib.hid hn; clear hn
    go_enter Tryz.func55, Tryz.ntmps55
    go_wp2_with fail
    refine (HFi.out _).mono ?_
    rintro e w1 ⟨rfl, rfl⟩
    go_wp2_with fail
    refine (number_ok s v _ hG hs HN.out).mono ?_
    rintro e w2 ⟨rfl, hf2⟩
    have hA2 := HA.out.fr0 hf2
    obtain ⟨u, hu⟩ := hA2.cell j hj
    have hz := hA2.frozen j
    have F2 := Lib.hid hf2; have A2 := Lib.hid hA2; clear hf2 hA2
    go_wp2_with fail
    go_end0
    refine .inl ⟨f v, by rw [HF.out, HN.out]; rfl, rfl, A2.out.set j _ fun vb vm => ⟨vb, vm, (HS.out v vb vm).1, ?_, ?_⟩, F2.out.nil.setCell _ _ (.inl (by simp))⟩
    · rw [(HS.out v vb vm).2.1]; exact id
    · rw [(HS.out v vb vm).2.2]; exact id

theorem own_slice {w : World} {base : Nat} {e : TypeId} {size : Nat} {v : Value} {n : Nat} {xs : List Value} (h : w.ownsRow base e size v n xs) : ∃ ao cap, v = .slice ao n cap := by
  rcases h.2 with ⟨rfl, rfl⟩ | ⟨g, cap, cur, rfl, _⟩
  · exact ⟨_, _, rfl⟩
  · exact ⟨_, _, rfl⟩
theorem own_base {w : World} {B base : Nat} {e : TypeId} {size : Nat} {v : Value} {n : Nat} {xs : List Value} (h : w.ownsRow base e size v n xs) (hB : B ≤ base) : w.ownsRow B e size v n xs := by
  refine ⟨h.1, ?_⟩
  rcases h.2 with h' | ⟨g, cap, cur, hv, hg, r⟩
  · exact .inl h'
  · exact .inr ⟨g, cap, cur, hv, Nat.le_trans hB hg, r⟩

/-- What a path's closure does, by the field's function k at offset j. -/
theorem way_read {B : Nat} (k j : Nat) (c : Int) (s : ByteArray) (b bk : Nat) (a a1 : ActD) (w : World) (hG : Gl B w) (hk : w.cell? ⟨bk, 0, none⟩ = some (fnv k))
    (henter : ∀ args w, (callFunc k args).run Tryz.prog w = .ok (.enter k args) w)
    (hfield : ∀ w, Calls Tryz.prog k #[.pointer (some ⟨b, 0, none⟩)] w fun e w' => e = .returned (.pointer (some ⟨b, j, none⟩)) ∧ w = w') (hj : j < 10)
    (hA : ActAt B w b a) (hf : fill1 c a s = if pathS s then some a1 else none) (hset : ∀ vb vm, (actCells a vb vm).setIfInBounds j (.string s) = actCells a1 vb vm ∧ a1.bytes = a.bytes ∧ a1.marks = a.marks) :
    Calls Tryz.prog 59 #[.pointer (some ⟨b, 0, none⟩), .string s, .pointer (some ⟨bk, 0, none⟩)] w (ReadPost B c a s b w) := by
  have hk' : w.cell? ⟨bk, 0, none⟩ = some (.func (.func k) #[] #[]) := hk
  have HF := Lib.hid hf; have HA := Lib.hid hA; have HS := Lib.hid hset; have HFi := Lib.hid hfield; clear hf hA hset hfield hk
  cases hn : pathS s with
  | false =>
    have HN := Lib.hid hn; clear hn
    go_enter Tryz.func59, Tryz.ntmps59
    go_wp2_with fail
    refine (HFi.out _).mono ?_
    rintro e w1 ⟨rfl, rfl⟩
    go_wp2_with fail
    refine (path_no s _ hG HN.out).mono ?_
    rintro e w2 ⟨he, rfl⟩
    have hpanic : e = .panicked [{ v := .iface 26 (.int .i64 380), recovered := false }] := he
    subst hpanic
    exact ⟨rfl, .inr ⟨by rw [HF.out, HN.out]; rfl, rfl, Fr.refl _ _⟩⟩
  | true =>
    have HN := Lib.hid hn; clear hn
    go_enter Tryz.func59, Tryz.ntmps59
    go_wp2_with fail
    refine (HFi.out _).mono ?_
    rintro e w1 ⟨rfl, rfl⟩
    go_wp2_with fail
    refine (path_ok s _ hG HN.out).mono ?_
    rintro e w2 ⟨rfl, rfl⟩
    obtain ⟨u, hu⟩ := HA.out.cell j hj
    have hz := HA.out.frozen j
    go_wp2_with fail
    go_end0
    refine .inl ⟨a1, by rw [HF.out, HN.out]; rfl, rfl, HA.out.set j _ fun vb vm => ⟨vb, vm, (HS.out vb vm).1, ?_, ?_⟩, (Fr.refl _ _).setCell _ _ (.inl (by simp))⟩
    · rw [(HS.out vb vm).2.1]; exact id
    · rw [(HS.out vb vm).2.2]; exact id

theorem bytes_read {B : Nat} (s : ByteArray) (b : Nat) (a : ActD) (w : World) (hG : Gl B w) (hs : s.size ≤ 1000000) (hA : ActAt B w b a) :
    Calls Tryz.prog 44 #[.pointer (some ⟨b, 0, none⟩), .string s] w (ReadPost B 98 a s b w) := by
  have HA := Lib.hid hA; clear hA
  go_enter Tryz.func44, Tryz.ntmps44
  go_wp2_with fail
  refine (bytes_any s _ hs).mono ?_
  rintro e w1 (⟨l, v, hb, rfl, ho, hf1⟩ | ⟨hb, hp, hf1⟩)
  · have HA1 := HA.out.fr0 hf1
    obtain ⟨u, hu⟩ := HA1.cell 8 (by decide)
    have hz := HA1.frozen 8
    obtain ⟨ao, cap, rfl⟩ := own_slice ho
    have O := Lib.hid ho; have F1 := Lib.hid hf1; have A1 := Lib.hid HA1; have HB := Lib.hid hb; clear ho hf1 HA1 hb
    go_wp2_with fail
    go_end0
    exact .inl ⟨{ a with bytes := l }, by simp [fill1, HB.out], rfl, A1.out.set 8 _ (fun vb vm => ⟨_, vm, rfl, fun _ => own_base O.out hG.size, id⟩), F1.out.nil.setCell _ _ (.inl (by simp))⟩
  · have hpanic : e = .panicked [{ v := .iface 26 (.int .i64 380), recovered := false }] := hp
    subst hpanic
    have HB := Lib.hid hb; clear hb hp
    exact ⟨rfl, .inr ⟨by simp [fill1, HB.out], rfl, hf1.nil⟩⟩

theorem marks_read {B : Nat} (s : ByteArray) (b : Nat) (a : ActD) (w : World) (hG : Gl B w) (hs : s.size ≤ 1000000) (hA : ActAt B w b a) :
    Calls Tryz.prog 49 #[.pointer (some ⟨b, 0, none⟩), .string s] w (ReadPost B 107 a s b w) := by
  have HA := Lib.hid hA; clear hA
  go_enter Tryz.func49, Tryz.ntmps49
  go_wp2_with fail
  refine (marks_any s _ hs).mono ?_
  rintro e w1 (⟨l, v, hb, rfl, ho, hf1⟩ | ⟨hb, hp, hf1⟩)
  · have HA1 := HA.out.fr0 hf1
    obtain ⟨u, hu⟩ := HA1.cell 9 (by decide)
    have hz := HA1.frozen 9
    obtain ⟨ao, cap, rfl⟩ := own_slice ho
    have O := Lib.hid ho; have F1 := Lib.hid hf1; have A1 := Lib.hid HA1; have HB := Lib.hid hb; clear ho hf1 HA1 hb
    go_wp2_with fail
    go_end0
    exact .inl ⟨{ a with marks := l }, by simp [fill1, HB.out], rfl, A1.out.set 9 _ (fun vb vm => ⟨vb, _, rfl, id, fun _ => own_base O.out hG.size⟩), F1.out.nil.setCell _ _ (.inl (by simp))⟩
  · have hpanic : e = .panicked [{ v := .iface 26 (.int .i64 380), recovered := false }] := hp
    subst hpanic
    have HB := Lib.hid hb; clear hb hp
    exact ⟨rfl, .inr ⟨by simp [fill1, HB.out], rfl, hf1.nil⟩⟩

def letters : List Int := [116, 109, 97, 110, 112, 113, 98, 107]

/-- What a map of parts holds at a letter: a function value that reads it. -/
theorem part_read {B : Nat} (c : Int) (hc : c ∈ letters) (w : World) (r base : Nat) (hP : PartsAt w r base) : ∃ es n i rd cap sv,
    w.heap[r]? = some (.map es n) ∧ Instr.findNow (.int .u8) (.int .u8 c) es.toList 0 = some (some (i, .agg #[.func (.func rd) #[] cap, sv])) ∧ (∀ args w, (callFunc rd args).run Tryz.prog w = .ok (.enter rd args) w) ∧
    ∀ S W, Fr S w W → (∀ x ∈ S, x < base) → Gl B W → ∀ (s : ByteArray) (b : Nat) (a : ActD), s.size ≤ 1000000 → ActAt B W b a → Calls Tryz.prog rd (#[.pointer (some ⟨b, 0, none⟩), .string s] ++ cap) W (ReadPost B c a s b W) := by
  obtain ⟨b1, b2, b3, b4, b5, b6, hb, hm, c1, c2, c3, c4, c5, c6⟩ := hP
  have nb : ∀ {S : List Nat} {x : Nat}, base ≤ x → (∀ y ∈ S, y < base) → x ∉ S := fun h1 h2 h3 => by have := h2 _ h3; omega
  have e55 : ∀ args w, (callFunc 55 args).run Tryz.prog w = .ok (.enter 55 args) w := enters_of Tryz.func55 (by kernel_rfl) rfl
  have e59 : ∀ args w, (callFunc 59 args).run Tryz.prog w = .ok (.enter 59 args) w := enters_of Tryz.func59 (by kernel_rfl) rfl
  simp only [letters, List.mem_cons, List.not_mem_nil, or_false] at hc
  rcases hc with rfl | rfl | rfl | rfl | rfl | rfl | rfl | rfl
  · exact ⟨_, _, 0, 55, _, _, hm, rfl, e55, fun S W f hS hG s b a hs hA => num_read 37 1 116 s b b1 a (fun v => { a with thread := v }) W hG hs (f.cell c1 (nb hb.1 hS)) (enters_of Tryz.func37 (by kernel_rfl) rfl) (field37 b) (by decide) hA (by simp [fill1]) (fun v vb vm => ⟨rfl, rfl, rfl⟩)⟩
  · exact ⟨_, _, 1, 55, _, _, hm, rfl, e55, fun S W f hS hG s b a hs hA => num_read 38 2 109 s b b2 a (fun v => { a with n := v }) W hG hs (f.cell c2 (nb hb.2.1 hS)) (enters_of Tryz.func38 (by kernel_rfl) rfl) (field38 b) (by decide) hA (by simp [fill1]) (fun v vb vm => ⟨rfl, rfl, rfl⟩)⟩
  · exact ⟨_, _, 2, 55, _, _, hm, rfl, e55, fun S W f hS hG s b a hs hA => num_read 39 6 97 s b b3 a (fun v => { a with at_ := v }) W hG hs (f.cell c3 (nb hb.2.2.1 hS)) (enters_of Tryz.func39 (by kernel_rfl) rfl) (field39 b) (by decide) hA (by simp [fill1]) (fun v vb vm => ⟨rfl, rfl, rfl⟩)⟩
  · exact ⟨_, _, 3, 55, _, _, hm, rfl, e55, fun S W f hS hG s b a hs hA => num_read 40 7 110 s b b4 a (fun v => { a with opn := v }) W hG hs (f.cell c4 (nb hb.2.2.2.1 hS)) (enters_of Tryz.func40 (by kernel_rfl) rfl) (field40 b) (by decide) hA (by simp [fill1]) (fun v vb vm => ⟨rfl, rfl, rfl⟩)⟩
  · exact ⟨_, _, 4, 59, _, _, hm, rfl, e59, fun S W f hS hG s b a hs hA => way_read 42 4 112 s b b5 a { a with path := s } W hG (f.cell c5 (nb hb.2.2.2.2.1 hS)) (enters_of Tryz.func42 (by kernel_rfl) rfl) (field42 b) (by decide) hA (by simp [fill1]) (fun vb vm => ⟨rfl, rfl, rfl⟩)⟩
  · exact ⟨_, _, 5, 59, _, _, hm, rfl, e59, fun S W f hS hG s b a hs hA => way_read 43 5 113 s b b6 a { a with dest := s } W hG (f.cell c6 (nb hb.2.2.2.2.2 hS)) (enters_of Tryz.func43 (by kernel_rfl) rfl) (field43 b) (by decide) hA (by simp [fill1]) (fun vb vm => ⟨rfl, rfl, rfl⟩)⟩
  · exact ⟨_, _, 6, 44, _, _, hm, rfl, enters_of Tryz.func44 (by kernel_rfl) rfl, fun S W f hS hG s b a hs hA => bytes_read s b a W hG hs hA⟩
  · exact ⟨_, _, 7, 49, _, _, hm, rfl, enters_of Tryz.func49 (by kernel_rfl) rfl, fun S W f hS hG s b a hs hA => marks_read s b a W hG hs hA⟩
end Go.Proofs.YtnldlakcopbpcaaGreatDoor
