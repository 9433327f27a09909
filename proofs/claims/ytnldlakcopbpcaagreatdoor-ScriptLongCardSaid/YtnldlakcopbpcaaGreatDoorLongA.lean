/- Plain, and contracts of the calls that ScriptLong makes. -/
import Derived.Test.YtnldlakcopbpcaaGreatDoorWorks
import Derived.Test.YtnldlakcopbpcaaGreatDoorNl
import Derived.Test.YtnldlakcopbpcaaGreatDoorReadLong
import Derived.Test.YtnldlakcopbpcaaGreatDoorTextLong
import Derived.Test.YtnldlakcopbpcaaGreatDoorEvict
import Derived.Laws.MakeOwn
import Derived.Deep.AppendLies
namespace Go.Proofs.YtnldlakcopbpcaaGreatDoor
open Go.RowKit Go.Lib

/-! ### The text of newlines -/
def fillC (n k : Nat) : Array Value := (List.replicate k (u8v 10) ++ List.replicate (n - k) (u8v 0)).toArray
theorem fill_zero (n : Nat) : madeCells (Value.cells (.int .u8 0)) (n * 1) = fillC n 0 := by
  apply Array.ext
  · simp [madeCells, fillC]
  · intro i h1 h2
    simp [madeCells, fillC, Value.cells, u8v, Nat.mod_one]
theorem fill_get (n k i : Nat) : (fillC n k)[i]? = if i < k then some (u8v 10) else if i < k + (n - k) then some (u8v 0) else none := by
  simp only [fillC, List.getElem?_toArray, List.getElem?_append, List.getElem?_replicate, List.length_replicate]
  by_cases h1 : i < k
  · simp [h1]
  · rw [if_neg h1, if_neg h1]
    by_cases h2 : i < k + (n - k)
    · rw [if_pos (by omega), if_pos h2]
    · rw [if_neg (by omega), if_neg h2]
theorem fill_size (n k : Nat) : (fillC n k).size = k + (n - k) := by simp [fillC]
theorem fill_set {n k : Nat} (h : k < n) : (fillC n k).setIfInBounds k (u8v 10) = fillC n (k + 1) := by
  apply Array.ext_getElem?
  intro i
  rw [Array.getElem?_setIfInBounds, fill_get, fill_get, fill_size]
  by_cases e : k = i
  · subst e
    rw [if_pos rfl, if_pos (by omega), if_pos (by omega)]
  · rw [if_neg e]
    by_cases h1 : i < k
    · rw [if_pos h1, if_pos (by omega)]
    · rw [if_neg h1, if_neg (by omega : ¬ i < k + 1)]
      by_cases h2 : i < n
      · rw [if_pos (by omega), if_pos (by omega)]
      · rw [if_neg (by omega), if_neg (by omega)]
theorem fill_at {n k i : Nat} (h : i < n) : ∃ v : Int, (fillC n k)[i]? = some (.int .u8 v) := by
  rw [fill_get]
  by_cases h1 : i < k
  · exact ⟨10, by rw [if_pos h1]; rfl⟩
  · exact ⟨0, by rw [if_neg h1, if_pos (by omega)]; rfl⟩
theorem fill_full (n : Nat) : fillC n n = ((List.replicate n 10).map u8v).toArray := by simp [fillC]
theorem newlines : ∀ n : Nat, strN (List.replicate n 10) = txt (List.replicate n ⟨#[]⟩)
  | 0 => by rfl
  | n + 1 => by
    have ih := newlines n
    apply bytes_ext
    have e : (strN (List.replicate (n + 1) 10)).data.toList = 10 :: (strN (List.replicate n 10)).data.toList := by simp [strN, List.replicate_succ, strOfNums]
    rw [e, ih, List.replicate_succ]
    simp [txt, nl]
theorem newlines_size (n : Nat) : (strN (List.replicate n 10)).size = n := by
  rw [newlines, txt_size, List.map_replicate, List.sum_replicate_nat]; exact Nat.mul_one n
theorem full_rep' (m : Nat) : full (List.replicate m ⟨#[]⟩) = [] := by
  unfold full; rw [List.filter_eq_nil_iff]; intro x hx
  rw [(List.mem_replicate.1 hx).2]; simp
theorem ActsAt.len {w : World} {v : Value} {l : List ActD} (h : ActsAt w v l) : ∃ ao cap, v = .slice ao l.length cap := by
  rcases h with ⟨rfl, ao, cap, rfl⟩ | ⟨b, off, cap, rfl, _⟩
  · exact ⟨ao, cap, rfl⟩
  · exact ⟨_, cap, rfl⟩
/-- Read of newlines alone. -/
theorem read_nl {B : Nat} (N : Nat) (hN : N ≤ 65537) (w : World) (hG : Gl B w) : Calls Tryz.prog 11 #[.string (strN (List.replicate N 10))] w fun e w' =>
    ∃ ao cap, e = .returned (.tuple #[.slice ao 0 cap, .int .i64 0, .int .i64 (if 65536 < N then 3 else 0)]) ∧ Fr [] w w' := by
  by_cases h : 65536 < N
  · rw [if_pos h]
    refine (read_long _ w (by rw [newlines_size]; exact h)).mono ?_
    rintro e w' ⟨rfl, hf⟩
    exact ⟨none, 0, rfl, hf⟩
  · rw [if_neg h]
    have hnl : ∀ s ∈ List.replicate N (⟨#[]⟩ : ByteArray), NoNl s := fun s hs => by rw [(List.mem_replicate.1 hs).2]; intro c hc; simp at hc
    have hz : ∀ s ∈ List.replicate N (⟨#[]⟩ : ByteArray), s.size ≤ 1000000 := fun s hs => by rw [(List.mem_replicate.1 hs).2]; exact Nat.zero_le _
    refine (read_any (B := B) _ w hG (by rw [newlines_size]; omega) (by rw [newlines, len_txt _ hnl, full_rep']; decide)).mono ?_
    intro e w' hP
    rw [newlines] at hP
    obtain ⟨v, rfl, hv, hf⟩ := read_txt hnl hz (fun s hs => by rw [full_rep'] at hs; cases hs) hP
    obtain ⟨ao, cap, rfl⟩ := hv.len
    rw [full_rep']
    exact ⟨ao, cap, rfl, hf⟩

/-! ### The acts -/
def evA (n : Nat) : ActD := { kind := 3, n := (n : Int) }
def evs (k : Nat) : List ActD := (List.range k).map evA
def evF (a : ActD) : ByteArray := evictS a.n.toNat
theorem evF_A (n : Nat) : evF (evA n) = evictS n := by simp [evF, evA]
theorem ev_good {n : Nat} (h : n ≤ 2001) : parseE (evictS n) = 0 ∧ parseA (evictS n) = evA n := by
  have := evict_parse n h
  unfold parseE parseA
  rw [this]; exact ⟨rfl, rfl⟩
theorem ev_ok {n : Nat} (h : n ≤ 2001) : ActOk (evA n) := parseS_ok (evict_parse n h)
theorem ev_size {n : Nat} (h : n ≤ 2001) : (evictS n).size ≤ 30 := by
  have h1 : (itoaB (n : Int)).size ≤ 21 := by
    have := Lib.itoa_length_le (n : Int) (by omega) (by omega)
    show (Lib.itoa (n : Int)).toArray.size ≤ 21
    simpa using this
  unfold evictS
  rw [ByteArray.size_append, ByteArray.size_append]
  show 5 + (1 + _) ≤ 30
  omega
theorem ev_mem {k : Nat} {a : ActD} (h : a ∈ evs k) : ∃ n, n < k ∧ a = evA n := by
  obtain ⟨n, hn, rfl⟩ := List.mem_map.1 h
  exact ⟨n, List.mem_range.1 hn, rfl⟩
theorem ev_prints {k : Nat} (h : k ≤ 2001) : Prints evF (evs k) := by
  intro a ha
  obtain ⟨n, hn, rfl⟩ := ev_mem ha
  refine ⟨ev_ok (by omega), by rw [evF_A]; exact ev_size (by omega), fun s hs => ?_⟩
  have e : s = evictS n := laid_evict hs
  have g := ev_good (n := n) (by omega)
  rw [e, evF_A]
  exact ⟨g.1, g.2, rfl⟩
theorem textS_txt (f : ActD → ByteArray) : ∀ (l : List ActD) (ps : List ByteArray), textS f l (txt ps) = txt (ps ++ l.map f)
  | [], ps => by simp [textS]
  | a :: l, ps => by
    have h := textS_txt f l (ps ++ [f a])
    rw [txt_snoc] at h
    simp only [textS, List.map_cons]
    rw [show (⟨#[10]⟩ : ByteArray) = nl from rfl, h]; simp
theorem ev_text (k : Nat) : textS evF (evs k) ⟨#[]⟩ = txt ((List.range k).map evictS) := by
  have := textS_txt evF (evs k) []
  rw [show txt [] = (⟨#[]⟩ : ByteArray) from rfl] at this
  rw [this, evs, List.map_map, List.nil_append]
  have e : (List.range k).map (evF ∘ evA) = (List.range k).map evictS := List.map_congr_left (fun n _ => evF_A n)
  rw [e]

/-- Text of k acts that evict. -/
theorem text_ev {B : Nat} (hsame : SameC) (M : Nat) (h0 : 0 < M) (hM : M ≤ 2001) (v : Value) (w : World) (hG : Gl B w) (hv : ActsAt w v (evs M)) : Calls Tryz.prog 12 #[v] w fun e w' =>
    e = .returned (.tuple #[.string (if 2000 < M then ⟨#[]⟩ else txt ((List.range M).map evictS)), .int .i64 (if 2000 < M then 3 else 0)]) ∧ Fr [] w w' := by
  have hlen : (evs M).length = M := by simp [evs]
  rcases hv with ⟨h, _⟩ | ⟨b, off, cap, rfl, hc⟩
  · rw [h] at hlen; simp at hlen; omega
  · by_cases h : 2000 < M
    · rw [if_pos h, if_pos h]
      exact text_long (B := B) hsame evF (evs M) b off cap w hG (by omega) (by omega) (ev_prints hM) hc
    · rw [if_neg h, if_neg h, ← ev_text]
      refine text_some (B := B) hsame evF (evs M) b off cap w hG (by omega) (ev_prints hM) hc ?_
      have := textS_size (f := evF) (l := evs M) (o := ⟨#[]⟩) (fun a ha => ((ev_prints hM) a ha).2.1)
      rw [hlen] at this
      have e : (⟨#[]⟩ : ByteArray).size = 0 := rfl
      omega

/-- Read of that text. -/
theorem read_ev {B : Nat} (M : Nat) (hM : M ≤ 2001) (w : World) (hG : Gl B w) : Calls Tryz.prog 11 #[.string (if 2000 < M then ⟨#[]⟩ else txt ((List.range M).map evictS))] w fun e w' =>
    ∃ ao cap, e = .returned (.tuple #[.slice ao (if 2000 < M then 0 else M) cap, .int .i64 0, .int .i64 0]) ∧ Fr [] w w' := by
  by_cases h : 2000 < M
  · rw [if_pos h, if_pos h]
    refine (read_any (B := B) _ w hG (by decide) (by rw [show (⟨#[]⟩ : ByteArray) = txt [] from rfl, len_txt [] (fun _ h => by cases h)]; decide)).mono ?_
    intro e w' hP
    rw [show (⟨#[]⟩ : ByteArray) = txt [] from rfl] at hP
    obtain ⟨v, rfl, hv, hf⟩ := read_txt (fun _ h => by cases h) (fun _ h => by cases h) (fun _ h => by cases h) hP
    obtain ⟨ao, cap, rfl⟩ := hv.len
    exact ⟨ao, cap, rfl, hf⟩
  · rw [if_neg h, if_neg h]
    have hmem : ∀ s ∈ (List.range M).map evictS, ∃ n, n ≤ 2001 ∧ s = evictS n := fun s hs => by
      obtain ⟨n, hn, rfl⟩ := List.mem_map.1 hs
      exact ⟨n, by have := List.mem_range.1 hn; omega, rfl⟩
    have hnl : ∀ s ∈ (List.range M).map evictS, NoNl s := fun s hs => by
      obtain ⟨n, hn, rfl⟩ := hmem s hs
      exact good_no_nl (ev_good hn).1
    have hz : ∀ s ∈ (List.range M).map evictS, s.size ≤ 1000000 := fun s hs => by
      obtain ⟨n, hn, rfl⟩ := hmem s hs
      exact Nat.le_trans (ev_size hn) (by decide)
    have hfull : full ((List.range M).map evictS) = (List.range M).map evictS := by
      unfold full
      rw [List.filter_eq_self]
      intro s hs
      obtain ⟨n, hn, rfl⟩ := hmem s hs
      simpa using good_ne (ev_good hn).1
    have hsz : (txt ((List.range M).map evictS)).size ≤ 65536 := by
      have h1 := textS_size (f := evF) (l := evs M) (o := ⟨#[]⟩) (fun a ha => ((ev_prints hM) a ha).2.1)
      rw [ev_text, show (evs M).length = M from by simp [evs]] at h1
      have e : (⟨#[]⟩ : ByteArray).size = 0 := rfl
      omega
    refine (read_any (B := B) _ w hG hsz (by rw [len_txt _ hnl, hfull]; simp; omega)).mono ?_
    intro e w' hP
    obtain ⟨v, rfl, hv, hf⟩ := read_txt hnl hz (fun s hs => by
      rw [hfull] at hs
      obtain ⟨n, hn, rfl⟩ := hmem s hs
      exact (ev_good hn).1) hP
    obtain ⟨ao, cap, rfl⟩ := hv.len
    rw [hfull]
    exact ⟨ao, cap, by simp, hf⟩

/-! ### The list of acts -/
def evL (k : Nat) : List (ActD × Value × Value) := (List.range k).map fun n => (evA n, .slice none 0 0, .slice none 0 0)
theorem evL_len (k : Nat) : (evL k).length = k := by simp [evL]
theorem evL_snoc (k : Nat) : evL (k + 1) = evL k ++ [(evA k, .slice none 0 0, .slice none 0 0)] := by simp [evL, List.range_succ]
theorem evL_acts (k : Nat) : (evL k).map (·.1) = evs k := by simp [evL, evs]
theorem evL_held (B : Nat) (k : Nat) (W : World) : Held B (evL k) W := by
  intro p hp
  obtain ⟨n, _, rfl⟩ := List.mem_map.1 hp
  exact ⟨World.ownsRow_nil _ _ _ _, World.ownsRow_nil _ _ _ _⟩
theorem info5 : (Tryz.prog.info? 5).map (fun i => (i.zero, i.size, i.bytes)) = some (some (.int .u8 0), 1, 1) := by kernel_rfl
end Go.Proofs.YtnldlakcopbpcaaGreatDoor
