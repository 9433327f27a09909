/- Plain: the lines of a text that is laid line by line. -/
import Derived.Test.YtnldlakcopbpcaaGreatDoorPlain
import Derived.Test.YtnldlakcopbpcaaGreatDoorRead
namespace Go.Proofs.YtnldlakcopbpcaaGreatDoor
open Go.RowKit Go.Lib

def nl : ByteArray := ⟨#[10]⟩
def txt : List ByteArray → ByteArray
  | [] => ⟨#[]⟩
  | s :: l => s ++ (nl ++ txt l)

theorem bytes_ext {a b : ByteArray} (h : a.data.toList = b.data.toList) : a = b := by
  obtain ⟨x⟩ := a; obtain ⟨y⟩ := b
  have : x = y := by simpa using h
  rw [this]
theorem app_list (a b : ByteArray) : (a ++ b).data.toList = a.data.toList ++ b.data.toList := by simp [ByteArray.data_append]

theorem txt_snoc : ∀ (l : List ByteArray) (s : ByteArray), txt (l ++ [s]) = txt l ++ (s ++ nl)
  | [], s => by apply bytes_ext; simp [txt]
  | p :: l, s => by
    have ih := txt_snoc l s
    simp only [List.cons_append, txt, ih]
    apply bytes_ext; simp
theorem txt_empty (l : List ByteArray) : txt l ++ nl = txt (l ++ [⟨#[]⟩]) := by rw [txt_snoc]; apply bytes_ext; simp
theorem txt_line (l : List ByteArray) (s : ByteArray) : txt l ++ s ++ nl = txt (l ++ [s]) := by rw [txt_snoc]; apply bytes_ext; simp

theorem indexByte_first : ∀ (l r : List UInt8), (∀ c ∈ l, c ≠ 10) → Lib.indexByte (l ++ 10 :: r) 10 = (l.length : Int)
  | [], r, _ => by simp [Lib.indexByte]
  | b :: l, r, h => by
    have ih := indexByte_first l r (fun c hc => h c (by simp [hc]))
    have hb : (b == 10) = false := by simpa using h b (by simp)
    simp only [List.cons_append, Lib.indexByte, hb, ih]
    have hne : ((l.length : Int) == -1) = false := by simp
    simp [hne]

theorem nlS_cons (s t : ByteArray) (h : NoNl s) : nlS (s ++ (nl ++ t)) = s :: nlS t := by
  have hi : Lib.indexB (s ++ (nl ++ t)) ⟨#[10]⟩ = (s.size : Int) := by
    show Lib.index (s ++ (nl ++ t)).data.toList [10] = _
    rw [Lib.index_one, app_list, app_list, Lib.size_eq]
    exact indexByte_first _ _ h
  have hx : (s ++ (nl ++ t)).extract (s.size + 1) (s ++ (nl ++ t)).size = t := by
    apply bytes_ext
    rw [extract_to_end, app_list, app_list]
    have e : s.data.toList ++ (nl.data.toList ++ t.data.toList) = (s.data.toList ++ [10]) ++ t.data.toList := by simp [nl]
    rw [e, List.drop_left' (by rw [List.length_append, ← Lib.size_eq]; rfl)]
  have h0 : (s ++ (nl ++ t)).extract 0 (s.size + 0) = s := by
    apply bytes_ext
    rw [Lib.extract_from_zero, app_list, List.take_left' (by rw [← Lib.size_eq]; rfl)]
  unfold nlS
  rw [Lib.countB_hit _ ⟨#[10]⟩ s.size (by decide) hi, Nat.add_comm 1, Lib.splitB_hit _ _ _ _ _ hi, h0]
  show s :: Lib.splitB _ _ (Lib.countB ((s ++ (nl ++ t)).extract (s.size + 1) (s ++ (nl ++ t)).size) _) ((s ++ (nl ++ t)).extract (s.size + 1) (s ++ (nl ++ t)).size) = _
  rw [hx]
theorem nlS_nil : nlS ⟨#[]⟩ = [⟨#[]⟩] := by kernel_rfl
theorem nlS_txt : ∀ (l : List ByteArray), (∀ s ∈ l, NoNl s) → nlS (txt l) = l ++ [⟨#[]⟩]
  | [], _ => nlS_nil
  | s :: l, h => by
    simp only [txt, List.cons_append]
    rw [nlS_cons s _ (h s (by simp)), nlS_txt l (fun x hx => h x (by simp [hx]))]
theorem lns_snd : ∀ (i : Nat) (ps : List ByteArray), (lns i ps).map (·.2) = ps.filter (fun p => decide (p ≠ ⟨#[]⟩))
  | _, [] => rfl
  | i, p :: ps => by
    have ih := lns_snd (i + 1) ps
    simp only [lns]
    by_cases h : p = ⟨#[]⟩
    · rw [if_pos h, ih]; simp [h]
    · rw [if_neg h, List.map_cons, ih]; simp [h]

/-- The lines of a text: those of its pieces that are not empty. -/
def full (l : List ByteArray) : List ByteArray := l.filter (fun p => decide (p ≠ ⟨#[]⟩))
theorem lns_txt (l : List ByteArray) (h : ∀ s ∈ l, NoNl s) : (lns 0 (nlS (txt l))).map (·.2) = full l := by
  rw [nlS_txt l h, lns_snd, full, List.filter_append]; simp
theorem len_txt (l : List ByteArray) (h : ∀ s ∈ l, NoNl s) : (lns 0 (nlS (txt l))).length = (full l).length := by rw [← lns_txt l h, List.length_map]
theorem clip_small {s : ByteArray} (h : s.size ≤ 1000000) : clip s = s := by unfold clip; rw [if_pos h]
theorem acts_txt (l : List ByteArray) (h : ∀ s ∈ l, NoNl s) (hz : ∀ s ∈ l, s.size ≤ 1000000) : actsL (lns 0 (nlS (txt l))) = (full l).map parseA := by
  rw [← lns_txt l h, List.map_map]
  unfold actsL
  apply List.map_congr_left
  intro x hx
  have hm : x.2 ∈ full l := by rw [← lns_txt l h]; exact List.mem_map_of_mem hx
  simp only [Function.comp]
  rw [clip_small (hz _ (List.mem_filter.1 hm).1)]
theorem ok_txt (l : List ByteArray) (h : ∀ s ∈ l, NoNl s) (hz : ∀ s ∈ l, s.size ≤ 1000000) (hp : ∀ s ∈ full l, parseE s = 0) : okL (lns 0 (nlS (txt l))) := by
  intro x hx
  have hm : x.2 ∈ full l := by rw [← lns_txt l h]; exact List.mem_map_of_mem hx
  rw [clip_small (hz _ (List.mem_filter.1 hm).1)]
  exact hp _ hm

/-- What Read tells of a text of lines that all are acts'. -/
theorem read_txt {l : List ByteArray} {w w' : World} {e : Ending} (h : ∀ s ∈ l, NoNl s) (hz : ∀ s ∈ l, s.size ≤ 1000000) (hp : ∀ s ∈ full l, parseE s = 0) (hr : RdPost (txt l) w e w') :
    ∃ v, e = .returned (.tuple #[v, .int .i64 0, .int .i64 0]) ∧ ActsAt w' v ((full l).map parseA) ∧ Fr [] w w' := by
  have hok := ok_txt l h hz hp
  rcases hr with ⟨v, he, ha, _, hf⟩ | ⟨p, x, hpx, _, hx, _⟩
  · exact ⟨v, he, by rw [acts_txt l h hz] at ha; exact ha, hf⟩
  · obtain ⟨t, ht⟩ := hpx
    have := hok x (by rw [← ht]; simp)
    rw [hx] at this; exact absurd this (by decide)

theorem txt_size : ∀ (l : List ByteArray), (txt l).size = (l.map fun s => s.size + 1).sum
  | [] => rfl
  | s :: l => by
    have ih := txt_size l
    simp only [txt, List.map_cons, List.sum_cons]
    rw [ByteArray.size_append, ByteArray.size_append, ih]
    have : nl.size = 1 := rfl
    omega
theorem parseE_some {s : ByteArray} (h : parseE s = 0) : parseS s = some (parseA s) := by
  unfold parseE at h
  unfold parseA
  cases e : parseS s with
  | none => rw [e] at h; simp at h
  | some a => rfl
theorem good_no_nl {s : ByteArray} (h : parseE s = 0) : NoNl s := parse_no_nl (parseE_some h)
theorem good_ne {s : ByteArray} (h : parseE s = 0) : s ≠ ⟨#[]⟩ := parse_some (parseE_some h)
end Go.Proofs.YtnldlakcopbpcaaGreatDoor
