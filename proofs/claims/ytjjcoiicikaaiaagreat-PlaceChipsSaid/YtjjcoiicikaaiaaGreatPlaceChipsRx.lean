import Derived.Test.YtjjcoiicikaaiaaGreatPlaceChipsBt
import Derived.Test.YtjjcoiicikaaiaaGreatPlaceChipsMi
set_option linter.unusedVariables false

set_option linter.unusedSimpArgs false

namespace Go.Proofs

open Go Go.Vx Go.Gm

theorem _root_.Go.Vx.VShR.zero32 {a : Nat} (h : a < 4294967296) {k : Int → Prop} (hk : k ((0 : Nat) : Int)) : VShR .u64 (a : Int) 32 k :=
  VShR.natU (a := a) 32 (by omega) fun c hc _ => by
    have : c = 0 := by rw [hc, Nat.shiftRight_eq_div_pow]; exact Nat.div_eq_of_lt h
    rw [this]; exact hk

theorem _root_.Go.Vx.VBit.mask32 {a : Nat} (h : a < 4294967296) {k : Int → Prop} (hk : k (a : Int)) : VBit .and .u64 (a : Int) 4294967295 k :=
  VBit.andU (b := 4294967295) (by omega) (by omega) fun c hc _ => by
    have : c = a := by
      rw [hc]
      have : (4294967295 : Nat) = 2 ^ 32 - 1 := rfl
      rw [this, Nat.and_two_pow_sub_one_eq_mod, Nat.mod_eq_of_lt (by omega)]
    rw [this]; exact hk

theorem bitsMul_one (n : Nat) (hn : n < 65536) (w : World) : Calls Tryz.prog 108 #[.int .u64 ((1 : Nat) : Int), .int .u64 (n : Int)] w fun e w' => e = .returned (.tuple #[.int .u64 ((0 : Nat) : Int), .int .u64 (n : Int)]) ∧ St w [] [] w' := by
  refine enter (C := Tryz.cx) (F := Tryz.fx108) (args := [_, _]) Tryz.func108 rfl rfl rfl Tryz.ok108 (St.start w []) ?_
  repeat' (conv => whnf); first | (refine VCall.isF 147 ?_; refine VCall.inl (F := Tryz.fx147) Tryz.func147 rfl rfl rfl Tryz.ok147 ?_) | (refine VShR.is ?_; refine VShR.is ?_; refine VShR.zero32 (by omega) ?_) | (refine VBit.is ?_; refine VBit.is ?_; refine VBit.mask32 (by omega) ?_) | (refine VAr.is ?_; refine VAr.is ?_; refine VAr.u64g (by omega) (by omega) fun c hc => ?_; first | (have e : c = 0 := (by omega); subst e; clear hc) | (have e : n = c := (by omega); subst e; clear hc)) | (refine VSeq.go ?_) | (refine VB.is ?_; refine VB.yes (by omega) fun _ => ?_) | (refine VB.is ?_; refine VB.no (by omega) fun _ => ?_) | (refine VB.split (fun _ => ?_) (fun _ => ?_)) | (refine boolE_split (fun h => ?_) (fun h => ?_) <;> subst h) | (refine VLd.is ?_; refine VLd.mk (.row aT (by rfl)) ?_) | (refine VSt.is ?_; refine VSt.row aT (by rfl) (by first | rfl | assumption) ?_) | (refine VNew.mk fun _ => ?_) | (refine VAr.is ?_; refine oA ?_) | (refine VIx.is ?_; refine VIx.mk rfl (by omega) (by omega) ?_) | (refine VKeep.is ?_; refine VKeep.mk aH ?_) | (refine VHs.mk _ (.refl _) ?_) | (refine VQ.is ?_; refine oQ ?_) | (refine VM.is ?_; refine oM ?_) | (refine And.intro ?_ ?_)
  all_goals (conv => whnf)
  exact ⟨fun w' hw' => ⟨rfl, hw'.le .nil⟩⟩

theorem rep_upd {n j m : Nat} {v : Int} (h : j + m ≤ n) : upd (flat intV (List.replicate j v ++ List.replicate (n - j) 0)) (j * 1) (flat intV (List.replicate m v)) = some (flat intV (List.replicate (j + m) v ++ List.replicate (n - (j + m)) 0)) := by
  have e1 : ∀ q (a : Int), (flat intV (List.replicate q a)).length = q := fun q a => by rw [flat_length (k := 1) (fun _ => rfl), List.length_replicate, Nat.mul_one]
  have h1 : (flat intV (List.replicate j v ++ List.replicate (n - j) 0)).length = n := by rw [flat_append, List.length_append, e1, e1]; omega
  rw [upd_mk _ _ _ (by rw [h1, e1]; omega)]
  congr 1
  rw [Nat.mul_one, flat_append, flat_append]
  have e2 : (flat intV (List.replicate j v) ++ flat intV (List.replicate (n - j) 0)).take j = flat intV (List.replicate j v) := by
    have := List.take_left (l₁ := flat intV (List.replicate j v)) (l₂ := flat intV (List.replicate (n - j) 0))
    rw [e1] at this; exact this
  have e3 : (flat intV (List.replicate j v) ++ flat intV (List.replicate (n - j) 0)).drop (j + (flat intV (List.replicate m v)).length) = flat intV (List.replicate (n - (j + m)) 0) := by
    have e4 : List.replicate (n - j) (0 : Int) = List.replicate m 0 ++ List.replicate (n - (j + m)) 0 := by rw [List.replicate_append_replicate]; congr 1; omega
    rw [e4, flat_append, ← List.append_assoc]
    have := List.drop_left (l₁ := flat intV (List.replicate j v) ++ flat intV (List.replicate m (0 : Int))) (l₂ := flat intV (List.replicate (n - (j + m)) (0 : Int)))
    rw [List.length_append, e1, e1] at this
    rw [e1]; exact this
  rw [e2, e3, ← flat_append, List.replicate_append_replicate]

theorem rep_sub {n j m : Nat} {v : Int} (h : j ≤ n) (hm : m ≤ j) : sub (flat intV (List.replicate j v ++ List.replicate (n - j) 0)) 0 (m * 1) = some (flat intV (List.replicate m v)) := by
  have e1 : ∀ q (a : Int), (flat intV (List.replicate q a)).length = q := fun q a => by rw [flat_length (k := 1) (fun _ => rfl), List.length_replicate, Nat.mul_one]
  rw [sub_mk _ _ _ (by rw [flat_append, List.length_append, e1, e1]; omega), Nat.mul_one, List.drop_zero]
  congr 1
  have e4 : List.replicate j v ++ List.replicate (n - j) (0 : Int) = List.replicate m v ++ (List.replicate (j - m) v ++ List.replicate (n - j) 0) := by
    rw [← List.append_assoc, List.replicate_append_replicate]; congr 2; omega
  rw [e4, flat_append]
  have := List.take_left (l₁ := flat intV (List.replicate m v)) (l₂ := flat intV (List.replicate (j - m) v ++ List.replicate (n - j) (0 : Int)))
  rw [e1] at this; exact this

theorem oneAll_ints : ∀ l : List Int, oneAll (flat intV l) = true
  | [] => rfl
  | x :: l => by
    have := oneAll_ints l
    simpa [flat, oneAll, intV, Value.oneCell'] using this

theorem repeat_any (v : Int) (n : Nat) (hn : n < 65536) (b o c : Nat) (w : World) (h1 : Sl w intV 1 [v] (some ⟨b, o, none⟩) 1 b o) :
    Calls Tryz.prog 70 #[.slice (some ⟨b, o, none⟩) 1 c, .int .i64 (n : Int)] w fun e w' => ∃ g : Nat, e = .returned (.slice (some ⟨g, 0, none⟩) n n) ∧ True ∧ St w [] [.vec (some ⟨g, 0, none⟩) n n 3 1 (flat intV (List.replicate n v))] w' := by
  have hmul := fun w' => bitsMul_one n hn w'
  refine enter (C := Tryz.cx) (F := Tryz.fx70) (args := [_, _]) Tryz.func70 rfl rfl rfl Tryz.ok70 (St.start w []) ?_
  repeat' (conv => whnf); first | (refine VCall.isF 108 ?_; (refine VCall.valR (fun w' _ => hmul w') ?_)) | (refine VAr.is ?_; refine VAr.is ?_; refine VAr.u64g (by omega) (by omega) fun c hc => ?_; first | (have e : c = 1 := (by omega); subst e; clear hc) | (have e : n = c := (by omega); subst e; clear hc)) | (refine VMk.is ?_; refine VMk.mk (by omega) (by omega) (by (try dsimp only); omega) (by omega) fun g => ?_) | (refine VSeq.go ?_) | (refine VB.is ?_; refine VB.yes (by omega) fun _ => ?_) | (refine VB.is ?_; refine VB.no (by omega) fun _ => ?_) | (refine VB.split (fun _ => ?_) (fun _ => ?_)) | (refine boolE_split (fun h => ?_) (fun h => ?_) <;> subst h) | (refine VLd.is ?_; refine VLd.mk (.row aT (by rfl)) ?_) | (refine VSt.is ?_; refine VSt.row aT (by rfl) (by first | rfl | assumption) ?_) | (refine VNew.mk fun _ => ?_) | (refine VAr.is ?_; refine oA ?_) | (refine VIx.is ?_; refine VIx.mk rfl (by omega) (by omega) ?_) | (refine VKeep.is ?_; refine VKeep.mk aH ?_) | (refine VHs.mk _ (.refl _) ?_) | (refine VQ.is ?_; refine oQ ?_) | (refine VM.is ?_; refine oM ?_) | (refine And.intro ?_ ?_)
  all_goals (conv => whnf)
  have hsrc : ∀ H, Src w [] H (some ⟨b, o, none⟩) (min 1 n) 1 (flat intV (List.replicate (min 1 n) v)) := fun H => by
    by_cases h0 : n = 0
    · subst h0; exact .none0
    · have : min 1 n = 1 := by omega
      rw [this]
      exact h1.src (by simp) (fun _ => rfl)
  have hu0 := rep_upd (n := n) (j := 0) (m := min 1 n) (v := v) (by omega)
  rw [Nat.zero_mul, Nat.zero_add, List.replicate_zero, List.nil_append, Nat.sub_zero, ← flat_rep] at hu0
  refine VCp.into (off := 0) rfl (hsrc _) (VSt.vec aT hu0 (oneAll_ints _) ?_)
  repeat' (conv => whnf); first | (refine VSeq.go ?_) | (refine VB.is ?_; refine VB.yes (by omega) fun _ => ?_) | (refine VB.is ?_; refine VB.no (by omega) fun _ => ?_) | (refine VB.split (fun _ => ?_) (fun _ => ?_)) | (refine boolE_split (fun h => ?_) (fun h => ?_) <;> subst h) | (refine VLd.is ?_; refine VLd.mk (.row aT (by rfl)) ?_) | (refine VSt.is ?_; refine VSt.row aT (by rfl) (by first | rfl | assumption) ?_) | (refine VNew.mk fun _ => ?_) | (refine VAr.is ?_; refine oA ?_) | (refine VIx.is ?_; refine VIx.mk rfl (by omega) (by omega) ?_) | (refine VKeep.is ?_; refine VKeep.mk aH ?_) | (refine VHs.mk _ (.refl _) ?_) | (refine VQ.is ?_; refine oQ ?_) | (refine VM.is ?_; refine oM ?_) | (refine And.intro ?_ ?_)
  all_goals (conv => whnf)
  refine VLoop.mk (α := Nat) (fun j => j ≤ n ∧ (1 ≤ j ∨ n = 0)) (fun j => [(1000000, .tuple #[]), (4, .slice none 0 0), (7, .slice (some ⟨g, 0, none⟩) n n), (8, .int .i64 (j : Int))])
    (fun j => [.vec (some ⟨g, 0, none⟩) n n 3 1 (flat intV (List.replicate j v ++ List.replicate (n - j) 0))]) (fun j => n - j) (min 1 n) ⟨by omega, by omega⟩ aE aH ?_
  rintro j ⟨hj, hj1⟩
  rcases Nat.lt_or_ge j n with hlt | hge
  · have hu := rep_upd (n := n) (j := j) (m := min j (n - j)) (v := v) (by omega)
    have hs := rep_sub (n := n) (j := j) (m := min j (n - j)) (v := v) (by omega) (by omega)
    repeat' (conv => whnf); first | (refine VSl.is ?_; refine VSl.is ?_; first | refine VSl.cut0 (m := j) (cap := n) (by omega) ?_ | (refine VSl.off (l := j) (h := n) (c := n) rfl rfl rfl (by omega) (by omega) fun off hoff => ?_; have hoe := hoff (by omega); subst hoe)) | (refine VCp.is ?_; refine VCp.is ?_; refine VCp.into rfl (.at_ (.vec aT hs)) (VSt.cast (off' := j * 1) (by first | omega | (dsimp only; omega) | rfl) (VSt.vec aT hu (oneAll_ints _) ?_))) | (refine VSeq.go ?_) | (refine VB.is ?_; refine VB.yes (by omega) fun _ => ?_) | (refine VB.is ?_; refine VB.no (by omega) fun _ => ?_) | (refine VB.split (fun _ => ?_) (fun _ => ?_)) | (refine boolE_split (fun h => ?_) (fun h => ?_) <;> subst h) | (refine VLd.is ?_; refine VLd.mk (.row aT (by rfl)) ?_) | (refine VSt.is ?_; refine VSt.row aT (by rfl) (by first | rfl | assumption) ?_) | (refine VNew.mk fun _ => ?_) | (refine VAr.is ?_; refine oA ?_) | (refine VIx.is ?_; refine VIx.mk rfl (by omega) (by omega) ?_) | (refine VKeep.is ?_; refine VKeep.mk aH ?_) | (refine VHs.mk _ (.refl _) ?_) | (refine VQ.is ?_; refine oQ ?_) | (refine VM.is ?_; refine oM ?_) | (refine And.intro ?_ ?_)
    all_goals (conv => whnf)
    have e : (j : Int) + ((min j (n - j) : Nat) : Int) = ((j + min j (n - j) : Nat) : Int) := by omega
    rw [e]
    exact VNext.mk (j + min j (n - j)) ⟨by omega, by omega⟩ (by omega) aE aH
  have hjn : j = n := by omega
  subst hjn
  rw [Nat.sub_self, List.replicate_zero, List.append_nil]
  repeat' (conv => whnf); first | (refine VSeq.go ?_) | (refine VB.is ?_; refine VB.yes (by omega) fun _ => ?_) | (refine VB.is ?_; refine VB.no (by omega) fun _ => ?_) | (refine VB.split (fun _ => ?_) (fun _ => ?_)) | (refine boolE_split (fun h => ?_) (fun h => ?_) <;> subst h) | (refine VLd.is ?_; refine VLd.mk (.row aT (by rfl)) ?_) | (refine VSt.is ?_; refine VSt.row aT (by rfl) (by first | rfl | assumption) ?_) | (refine VNew.mk fun _ => ?_) | (refine VAr.is ?_; refine oA ?_) | (refine VIx.is ?_; refine VIx.mk rfl (by omega) (by omega) ?_) | (refine VKeep.is ?_; refine VKeep.mk aH ?_) | (refine VHs.mk _ (.refl _) ?_) | (refine VQ.is ?_; refine oQ ?_) | (refine VM.is ?_; refine oM ?_) | (refine And.intro ?_ ?_)
  all_goals (conv => whnf)
  exact ⟨fun w' hw' => ⟨g, rfl, trivial, hw'.le aH⟩⟩

end Go.Proofs
