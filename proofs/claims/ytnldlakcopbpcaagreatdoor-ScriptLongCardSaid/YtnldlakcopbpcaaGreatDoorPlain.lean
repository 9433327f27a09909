/- Plain: a line that is an act's holds no newline and is not empty. -/
import Derived.Test.YtnldlakcopbpcaaGreatDoorActOk
import Derived.Lib.IndexMore
namespace Go.Proofs.YtnldlakcopbpcaaGreatDoor
open Go.RowKit Go.Lib

theorem split_mem : ∀ (k : Nat) (l : ByteArray) (c : UInt8), c ∈ l.data.toList → c = 32 ∨ ∃ p ∈ Lib.splitB ⟨#[32]⟩ 0 k l, c ∈ p.data.toList := by
  intro k
  induction k with
  | zero => intro l c hc; rw [Lib.splitB_zero]; exact .inr ⟨l, by simp, hc⟩
  | succ k ih =>
    intro l c hc
    rcases Lib.indexB_cases l ⟨#[32]⟩ with h0 | ⟨i, hi, hr⟩
    · rw [Lib.splitB_miss _ _ _ _ h0]; exact .inr ⟨l, by simp, hc⟩
    · rw [Lib.splitB_hit _ _ _ _ i hi]
      have hi' : Lib.index l.data.toList [32] = (i : Int) := hi
      have hocc : ([32] : List UInt8).isPrefixOf (l.data.toList.drop i) = true := by
        rcases Lib.index_spec l.data.toList [32] with ⟨h, _⟩ | ⟨j, hj, _, ho, _⟩
        · omega
        · have : i = j := by omega
          subst this; exact ho
      have hdrop : l.data.toList.drop i = 32 :: l.data.toList.drop (i + 1) := by
        cases e : l.data.toList.drop i with
        | nil => rw [e] at hocc; simp at hocc
        | cons b t =>
          rw [e] at hocc
          have hb : (32 : UInt8) = b := by simpa using hocc
          have ht : l.data.toList.drop (i + 1) = t := by rw [← List.drop_drop, e]; rfl
          rw [ht, hb]
      rw [← List.take_append_drop i l.data.toList, List.mem_append, hdrop, List.mem_cons] at hc
      rcases hc with hc | rfl | hc
      · exact .inr ⟨l.extract 0 (i + 0), List.mem_cons_self, by rw [ByteArray.data_extract, Array.toList_extract, List.extract]; simpa using hc⟩
      · exact .inl rfl
      · have hc' : c ∈ (l.extract (i + 1) l.size).data.toList := by
          have e : (l.extract (i + 1) l.size).data.toList = l.data.toList.drop (i + 1) := by
            rw [ByteArray.data_extract, Array.toList_extract, List.extract]
            exact List.take_of_length_le (by have := Lib.size_eq l; simp)
          rw [e]; exact hc
        rcases ih _ c hc' with h | ⟨p, hp, hcp⟩
        · exact .inl h
        · exact .inr ⟨p, by simp only [List.mem_cons]; right; exact hp, hcp⟩

def NoNl (s : ByteArray) : Prop := ∀ c ∈ s.data.toList, c ≠ 10

theorem digits_no : ∀ (n u : Nat), u ≤ n → ∀ c ∈ Lib.decDigits u, c ≠ 10 := by
  have hd : ∀ x : Fin 10, UInt8.ofNat (48 + x.val) ≠ 10 := by decide
  intro n
  induction n with
  | zero => intro u hu c hc; rw [Lib.decDigits, dif_pos (by omega)] at hc; rw [List.mem_singleton.1 hc]; exact hd ⟨u, by omega⟩
  | succ n ih =>
    intro u hu c hc
    rw [Lib.decDigits] at hc
    split at hc
    · rename_i h; rw [List.mem_singleton.1 hc]; exact hd ⟨u, h⟩
    · rename_i h
      rw [List.mem_append, List.mem_singleton] at hc
      rcases hc with hc | rfl
      · exact ih (u / 10) (by omega) c hc
      · exact hd ⟨u % 10, Nat.mod_lt _ (by decide)⟩
theorem itoa_no (v : Int) : ∀ c ∈ Lib.itoa v, c ≠ 10 := by
  intro c hc
  unfold Lib.itoa at hc
  split at hc
  · rcases List.mem_cons.1 hc with rfl | hc
    · decide
    · exact digits_no _ _ (Nat.le_refl _) c hc
  · exact digits_no _ _ (Nat.le_refl _) c hc

theorem number_no_nl {s : ByteArray} {v : Int} (h : numberS s = some v) : NoNl s := by
  unfold numberS at h
  split at h
  · split at h
    · rename_i hs
      intro c hc; rw [← hs.2.1] at hc; exact itoa_no _ c hc
    · cases h
  · cases h

theorem marks_no_nl {s : ByteArray} {l : List Bool} (h : marksS s = some l) : NoNl s := by
  unfold marksS at h
  split at h
  · rename_i e; intro c hc; rw [e] at hc; simp at hc; subst hc; decide
  · split at h
    · rename_i hs
      intro c hc
      rcases trim_all hs.2.2 c hc with rfl | rfl <;> decide
    · cases h

theorem half_nl {c : UInt8} {x : Nat} (h : halfS c = some x) : c ≠ 10 := by
  intro e
  subst e
  have h0 : halfS 10 = none := by decide
  rw [h0] at h; cases h

theorem hexL_no : ∀ {l : List UInt8} {ns : List Nat}, hexL l = some ns → ∀ c ∈ l, c ≠ 10
  | [], _, _, c, hc => by cases hc
  | [_], _, h, _, _ => by simp [hexL] at h
  | a :: b :: r, ns, h, c, hc => by
    simp only [hexL] at h
    split at h
    · cases h
    · rename_i x hx
      split at h
      · cases h
      · rename_i y hy
        cases hr : hexL r with
        | none => rw [hr] at h; cases h
        | some ms =>
          rcases List.mem_cons.1 hc with rfl | hc
          · exact half_nl hx
          · rcases List.mem_cons.1 hc with rfl | hc
            · exact half_nl hy
            · exact hexL_no hr c hc

theorem bytes_no_nl {s : ByteArray} {l : List Nat} (h : bytesS s = some l) : NoNl s := by
  unfold bytesS at h
  split at h
  · rename_i e; intro c hc; rw [e] at hc; rw [List.mem_singleton.1 hc]; decide
  · split at h
    · exact hexL_no h
    · cases h

theorem path_no_nl {s : ByteArray} (h : pathS s = true) : NoNl s := by
  intro c hc e
  subst e
  unfold pathS at h
  simp only [Bool.and_eq_true, Bool.not_eq_true'] at h
  have h2 := h.2
  unfold Lib.contains at h2
  rcases Lib.index_spec s.data.toList [10] with ⟨h3, h4⟩ | ⟨i, h3, _⟩
  · obtain ⟨n, hn, he⟩ := List.mem_iff_getElem.1 hc
    have := h4 n (by omega)
    unfold Lib.occAt at this
    rw [List.drop_eq_getElem_cons hn, he] at this
    simp at this
  · rw [h3] at h2
    simp at h2

theorem fill1_no {c : Int} {a a' : ActD} {s : ByteArray} (h : fill1 c a s = some a') : NoNl s := by
  unfold fill1 at h
  split at h
  · cases e : numberS s with
    | none => rw [e] at h; cases h
    | some v => exact number_no_nl e
  split at h
  · cases e : numberS s with
    | none => rw [e] at h; cases h
    | some v => exact number_no_nl e
  split at h
  · cases e : numberS s with
    | none => rw [e] at h; cases h
    | some v => exact number_no_nl e
  split at h
  · cases e : numberS s with
    | none => rw [e] at h; cases h
    | some v => exact number_no_nl e
  split at h
  · split at h
    · rename_i hq; exact path_no_nl hq
    · cases h
  split at h
  · split at h
    · rename_i hq; exact path_no_nl hq
    · cases h
  split at h
  · cases e : bytesS s with
    | none => rw [e] at h; cases h
    | some v => exact bytes_no_nl e
  split at h
  · cases e : marksS s with
    | none => rw [e] at h; cases h
    | some v => exact marks_no_nl e
  · cases h

theorem fillL_no : ∀ {cs : List UInt8} {a a' : ActD} {ws ws' : List ByteArray}, fillL cs a ws = some (a', ws') → ∀ p ∈ ws, p ∈ ws' ∨ NoNl p
  | [], a, a', ws, ws', h, p, hp => by simp only [fillL, Option.some.injEq, Prod.mk.injEq] at h; rw [← h.2]; exact .inl hp
  | _ :: _, _, _, [], _, h, _, _ => by simp [fillL] at h
  | c :: cs, a, a', s :: ws, ws', h, p, hp => by
    simp only [fillL] at h
    split at h
    · cases h
    · rename_i a1 h1
      rcases List.mem_cons.1 hp with rfl | hp
      · exact .inr (fill1_no h1)
      · exact fillL_no h p hp

theorem verbOf_no {s : ByteArray} {r : Int × ByteArray} (h : verbOf s = some r) : NoNl s := by
  unfold verbOf at h
  by_cases h0 : s = ⟨#[113, 117, 101, 117, 101]⟩
  · rw [h0]; unfold NoNl; decide
  rw [if_neg h0] at h
  by_cases h1 : s = ⟨#[115, 116, 101, 112]⟩
  · rw [h1]; unfold NoNl; decide
  rw [if_neg h1] at h
  by_cases h2 : s = ⟨#[101, 118, 105, 99, 116]⟩
  · rw [h2]; unfold NoNl; decide
  rw [if_neg h2] at h
  by_cases h3 : s = ⟨#[99, 114, 97, 115, 104]⟩
  · rw [h3]; unfold NoNl; decide
  rw [if_neg h3] at h
  by_cases h4 : s = ⟨#[114, 101, 99, 111, 118, 101, 114]⟩
  · rw [h4]; unfold NoNl; decide
  rw [if_neg h4] at h
  cases h
theorem opOf_no {s : ByteArray} {r : Int × ByteArray} (h : opOf s = some r) : NoNl s := by
  unfold opOf at h
  by_cases h0 : s = ⟨#[115, 116, 97, 116]⟩
  · rw [h0]; unfold NoNl; decide
  rw [if_neg h0] at h
  by_cases h1 : s = ⟨#[108, 105, 115, 116]⟩
  · rw [h1]; unfold NoNl; decide
  rw [if_neg h1] at h
  by_cases h2 : s = ⟨#[114, 101, 97, 100]⟩
  · rw [h2]; unfold NoNl; decide
  rw [if_neg h2] at h
  by_cases h3 : s = ⟨#[109, 97, 107, 101]⟩
  · rw [h3]; unfold NoNl; decide
  rw [if_neg h3] at h
  by_cases h4 : s = ⟨#[109, 107, 100, 105, 114]⟩
  · rw [h4]; unfold NoNl; decide
  rw [if_neg h4] at h
  by_cases h5 : s = ⟨#[117, 110, 108, 105, 110, 107]⟩
  · rw [h5]; unfold NoNl; decide
  rw [if_neg h5] at h
  by_cases h6 : s = ⟨#[114, 109, 100, 105, 114]⟩
  · rw [h6]; unfold NoNl; decide
  rw [if_neg h6] at h
  by_cases h7 : s = ⟨#[114, 101, 110, 97, 109, 101]⟩
  · rw [h7]; unfold NoNl; decide
  rw [if_neg h7] at h
  by_cases h8 : s = ⟨#[108, 105, 110, 107]⟩
  · rw [h8]; unfold NoNl; decide
  rw [if_neg h8] at h
  by_cases h9 : s = ⟨#[119, 114, 105, 116, 101]⟩
  · rw [h9]; unfold NoNl; decide
  rw [if_neg h9] at h
  by_cases h10 : s = ⟨#[99, 117, 116]⟩
  · rw [h10]; unfold NoNl; decide
  rw [if_neg h10] at h
  cases h

theorem parse_words {ws : List ByteArray} {a : ActD} (h : parse1 ws = some a) : ∀ p ∈ ws, NoNl p := by
  unfold parse1 at h
  split at h
  · cases h
  · rename_i v ws1
    split at h
    · cases h
    · rename_i k needs hv
      unfold parse2 at h
      split at h
      · cases h
      · rename_i a1 ws2 h1
        have key : ∀ p ∈ ws2, NoNl p := by
          split at h
          · unfold parse3 at h
            split at h
            · cases h
            · rename_i o ws3
              split at h
              · cases h
              · rename_i x needs2 ho
                split at h
                · cases h
                · rename_i a2 ws4 h2
                  split at h
                  · rename_i hw
                    intro p hp
                    rcases List.mem_cons.1 hp with rfl | hp
                    · exact opOf_no ho
                    · rcases fillL_no h2 p hp with h3 | h3
                      · rw [hw] at h3; cases h3
                      · exact h3
                  · cases h
          · split at h
            · rename_i hw; intro p hp; rw [hw] at hp; cases hp
            · cases h
        intro p hp
        rcases List.mem_cons.1 hp with rfl | hp
        · exact verbOf_no hv
        · rcases fillL_no h1 p hp with h3 | h3
          · exact key p h3
          · exact h3

/-- A line that is an act's holds no newline. -/
theorem parse_no_nl {s : ByteArray} {a : ActD} (h : parseS s = some a) : NoNl s := by
  intro c hc
  rcases split_mem _ s c hc with rfl | ⟨p, hp, hcp⟩
  · decide
  · exact parse_words h p hp c hcp
theorem parse_some {s : ByteArray} {a : ActD} (h : parseS s = some a) : s ≠ ⟨#[]⟩ := by
  intro e
  subst e
  have h0 : parseS ⟨#[]⟩ = none := by kernel_rfl
  rw [h0] at h; cases h
end Go.Proofs.YtnldlakcopbpcaaGreatDoor
