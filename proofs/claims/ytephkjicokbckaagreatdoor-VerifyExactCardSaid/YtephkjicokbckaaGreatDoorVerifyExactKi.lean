import Derived.Test.YtephkjicokbckaaGreatDoorVerifyExactKy
set_option linter.unusedVariables false

set_option linter.unusedSimpArgs false

namespace Go.Proofs

open Go Go.Vx Go.Gm

def digB (b : UInt8) : Prop := 48 ≤ b.toNat ∧ b.toNat ≤ 57

theorem dig_of (d : Nat) (h : d < 10) : (UInt8.ofNat (48 + d)).toNat = 48 + d := by
  simp only [UInt8.toNat_ofNat']
  omega

theorem decDigits_dig (u : Nat) : ∀ b ∈ Lib.decDigits u, digB b := by
  induction u using Nat.strongRecOn with
  | ind u ih =>
    intro b hb
    rw [Lib.decDigits] at hb
    split at hb
    · rename_i h
      simp only [List.mem_singleton] at hb
      subst hb
      unfold digB
      rw [dig_of u h]
      omega
    · rename_i h
      rcases List.mem_append.1 hb with hb | hb
      · exact ih (u / 10) (by omega) b hb
      · simp only [List.mem_singleton] at hb
        subst hb
        unfold digB
        rw [dig_of (u % 10) (by omega)]
        omega

def digV (l : List UInt8) : Nat := l.foldl (fun a b => a * 10 + (b.toNat - 48)) 0

theorem digV_dec (u : Nat) : digV (Lib.decDigits u) = u := by
  induction u using Nat.strongRecOn with
  | ind u ih =>
    rw [Lib.decDigits]
    split
    · rename_i h
      unfold digV
      simp only [List.foldl_cons, List.foldl_nil]
      rw [dig_of u h]
      omega
    · rename_i h
      have := ih (u / 10) (by omega)
      unfold digV at this ⊢
      rw [List.foldl_append, this]
      simp only [List.foldl_cons, List.foldl_nil]
      rw [dig_of (u % 10) (by omega)]
      omega

theorem decDigits_inj {u v : Nat} (h : Lib.decDigits u = Lib.decDigits v) : u = v := by
  rw [← digV_dec u, h, digV_dec]

theorem itoa_no32 (n : Int) : (32 : UInt8) ∉ Lib.itoa n := by
  intro h
  unfold Lib.itoa at h
  split at h
  · rcases List.mem_cons.1 h with h | h
    · exact absurd h (by decide)
    · have := decDigits_dig _ _ h
      unfold digB at this
      have e : (32 : UInt8).toNat = 32 := rfl
      omega
  · have := decDigits_dig _ _ h
    unfold digB at this
    have e : (32 : UInt8).toNat = 32 := rfl
    omega

theorem itoa_inj {m n : Int} (h : Lib.itoa m = Lib.itoa n) : m = n := by
  have hno : ∀ u, (45 : UInt8) ∉ Lib.decDigits u := fun u hm => by
    have := decDigits_dig _ _ hm
    unfold digB at this
    have e : (45 : UInt8).toNat = 45 := rfl
    omega
  unfold Lib.itoa at h
  by_cases h1 : m < 0
  · by_cases h2 : n < 0
    · rw [if_pos h1, if_pos h2] at h
      have := decDigits_inj (List.cons.inj h).2
      omega
    · rw [if_pos h1, if_neg h2] at h
      exact absurd (by rw [← h]; exact List.mem_cons_self) (hno n.toNat)
  · by_cases h2 : n < 0
    · rw [if_neg h1, if_pos h2] at h
      exact absurd (by rw [h]; exact List.mem_cons_self) (hno m.toNat)
    · rw [if_neg h1, if_neg h2] at h
      have := decDigits_inj h
      omega

theorem split32 : ∀ {x y r r' : List UInt8}, (32 : UInt8) ∉ x → (32 : UInt8) ∉ y → x ++ 32 :: r = y ++ 32 :: r' → x = y ∧ r = r'
  | [], [], r, r', _, _, h => ⟨rfl, by simpa using h⟩
  | [], b :: y, r, r', _, hy, h => by
    simp only [List.nil_append, List.cons_append, List.cons.injEq] at h
    exact absurd (by rw [h.1]; exact List.mem_cons_self) hy
  | a :: x, [], r, r', hx, _, h => by
    simp only [List.nil_append, List.cons_append, List.cons.injEq] at h
    exact absurd (by rw [← h.1]; exact List.mem_cons_self) hx
  | a :: x, b :: y, r, r', hx, hy, h => by
    simp only [List.cons_append, List.cons.injEq] at h
    obtain ⟨h1, h2⟩ := split32 (fun hm => hx (List.mem_cons_of_mem _ hm)) (fun hm => hy (List.mem_cons_of_mem _ hm)) h.2
    exact ⟨by rw [h.1, h1], h2⟩

theorem numB_cancel {a b : Int} {r r' : List UInt8} (h : numB a ++ r = numB b ++ r') : a = b ∧ r = r' := by
  unfold numB at h
  rw [List.append_assoc, List.append_assoc] at h
  obtain ⟨h1, h2⟩ := split32 (itoa_no32 a) (itoa_no32 b) h
  exact ⟨itoa_inj h1, h2⟩

theorem boolB_cancel {a b : Bool} {r r' : List UInt8} (h : boolB a ++ r = boolB b ++ r') : a = b ∧ r = r' := by
  cases a <;> cases b <;> simp [boolB] at h
  · exact ⟨rfl, h⟩
  · exact ⟨rfl, h⟩

theorem flatMap_cancel {α : Type} {f : α → List UInt8} (hf : ∀ a b r r', f a ++ r = f b ++ r' → a = b ∧ r = r') : ∀ {l l' : List α} {r r' : List UInt8}, l.length = l'.length → l.flatMap f ++ r = l'.flatMap f ++ r' → l = l' ∧ r = r'
  | [], [], r, r', _, h => ⟨rfl, by simpa using h⟩
  | [], b :: l', r, r', hl, h => by simp at hl
  | a :: l, [], r, r', hl, h => by simp at hl
  | a :: l, b :: l', r, r', hl, h => by
    rw [List.flatMap_cons, List.flatMap_cons, List.append_assoc, List.append_assoc] at h
    obtain ⟨h1, h2⟩ := hf _ _ _ _ h
    obtain ⟨h3, h4⟩ := flatMap_cancel hf (by simpa using hl) h2
    exact ⟨by rw [h1, h3], h4⟩

theorem keyB_inj {s s' : List Sta} {d d' : List Int} {b b' : List Bool} {l l' : Int} (hs : s.length = s'.length) (hd : d.length = d'.length) (hb : b.length = b'.length) (h : keyB s d b l = keyB s' d' b' l') : s = s' ∧ d = d' ∧ b = b' ∧ l = l' := by
  unfold keyB at h
  rw [List.append_assoc, List.append_assoc, List.append_assoc, List.append_assoc] at h
  have hf : ∀ (a b : Sta) (r r' : List UInt8), (numB a.v ++ numB a.rest) ++ r = (numB b.v ++ numB b.rest) ++ r' → a = b ∧ r = r' := by
    intro a b r r' h
    rw [List.append_assoc, List.append_assoc] at h
    obtain ⟨h1, h2⟩ := numB_cancel h
    obtain ⟨h3, h4⟩ := numB_cancel h2
    cases a; cases b
    dsimp only at h1 h3
    exact ⟨by rw [h1, h3], h4⟩
  obtain ⟨h1, h2⟩ := flatMap_cancel hf hs h
  obtain ⟨h3, h4⟩ := flatMap_cancel (fun _ _ _ _ => numB_cancel) hd h2
  obtain ⟨h5, h6⟩ := flatMap_cancel (fun _ _ _ _ => boolB_cancel) hb h4
  obtain ⟨h7, _⟩ := numB_cancel (r := []) (r' := []) (by simpa using h6)
  exact ⟨h1, h3, h5, h7⟩

end Go.Proofs
