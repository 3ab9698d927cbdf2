import Derived.Test.YtephkjicokbckaaGreatDoorVerifyKnownSd
import Derived.Test.YtephkjicokbckaaGreatDoorVerifyKnownGd
set_option linter.unusedVariables false

set_option linter.unusedSimpArgs false

namespace Go.Proofs

open Go Go.Vx Go.Gm

def wr (z : Int) : Int := (z + 9223372036854775808) % 18446744073709551616 - 9223372036854775808

theorem wadd_wr (a b : Int) : wadd a b = wr (a + b) := rfl

theorem wr_wr (a b : Int) : wr (wr a + b) = wr (a + b) := by unfold wr; omega

theorem wr_id {a : Int} (h : I64 a) : wr a = a := by unfold wr; unfold I64 at h; omega

theorem wr_i64 (a : Int) : I64 (wr a) := by unfold wr I64; omega

def cellD (D : List (List Int)) (d i : Nat) : Option Int := (D[d]?).bind fun r => r[i]?

def inW (d i : Nat) (s : Syn) : Int := if s.dl.toNat - 1 = d ∧ s.to.toNat = i then s.wt else 0

theorem cellD_add {D : List (List Int)} {d i : Nat} {v : Int} (h : cellD D d i = some v) (h64 : I64 v) (s : Syn) : cellD (refAdd D s) d i = some (wr (v + inW d i s)) := by
  unfold cellD at h ⊢
  unfold refAdd
  obtain ⟨r, hr, hv⟩ := Option.bind_eq_some_iff.1 h
  rw [List.getElem?_modify, hr]
  by_cases h1 : s.dl.toNat - 1 = d
  · by_cases h2 : s.to.toNat = i
    · have e : inW d i s = s.wt := by unfold inW; rw [if_pos ⟨h1, h2⟩]
      rw [e, ← wadd_wr]
      simp [h1, h2, hv]
    · have e : inW d i s = 0 := by unfold inW; rw [if_neg (fun h => h2 h.2)]
      rw [e, Int.add_zero, wr_id h64]
      simp [h1, h2, hv]
  · have e : inW d i s = 0 := by unfold inW; rw [if_neg (fun h => h1 h.1)]
    rw [e, Int.add_zero, wr_id h64]
    simp [h1, hv]

theorem cellD_fold {d i : Nat} : ∀ (l : List Syn) {D : List (List Int)} {v : Int}, cellD D d i = some v → I64 v → cellD (l.foldl refAdd D) d i = some (wr (v + (l.map (inW d i)).sum))
  | [], D, v, h, h64 => by simp only [List.foldl_nil, List.map_nil, List.sum_nil, Int.add_zero]; rw [wr_id h64]; exact h
  | s :: l, D, v, h, h64 => by
    rw [List.foldl_cons, cellD_fold l (cellD_add h h64 s) (wr_i64 _), wr_wr, List.map_cons, List.sum_cons, Int.add_assoc]

theorem sysum_filter {p : Syn → Bool} {f : Syn → Int} : ∀ l : List Syn, ((l.filter p).map f).sum = (l.map fun s => if p s = true then f s else 0).sum
  | [] => rfl
  | s :: l => by
    rw [List.map_cons, List.sum_cons, ← sysum_filter l]
    by_cases h : p s = true
    · rw [List.filter_cons_of_pos h, List.map_cons, List.sum_cons, if_pos h]
    · rw [List.filter_cons_of_neg h, if_neg h, Int.zero_add]

theorem sysum_add {f g : Syn → Int} : ∀ l : List Syn, (l.map f).sum + (l.map g).sum = (l.map fun s => f s + g s).sum
  | [] => rfl
  | s :: l => by
    have := sysum_add (f := f) (g := g) l
    simp only [List.map_cons, List.sum_cons]
    omega

theorem sysum_congr {f g : Syn → Int} : ∀ {l : List Syn}, (∀ s ∈ l, f s = g s) → (l.map f).sum = (l.map g).sum
  | [], _ => rfl
  | s :: l, h => by
    simp only [List.map_cons, List.sum_cons, h s List.mem_cons_self]
    rw [sysum_congr fun x hx => h x (List.mem_cons_of_mem _ hx)]

theorem sysum_zero : ∀ l : List Syn, (l.map fun _ => (0 : Int)).sum = 0
  | [] => rfl
  | s :: l => by simp only [List.map_cons, List.sum_cons, sysum_zero l]; rfl

theorem sysum_bound {f : Syn → Int} {B : Int} : ∀ {l : List Syn}, (∀ s ∈ l, -B ≤ f s ∧ f s ≤ B) → -(B * (l.length : Int)) ≤ (l.map f).sum ∧ (l.map f).sum ≤ B * (l.length : Int)
  | [], _ => by simp
  | s :: l, h => by
    have h1 := h s List.mem_cons_self
    have h2 := sysum_bound (B := B) fun x hx => h x (List.mem_cons_of_mem s hx)
    simp only [List.map_cons, List.sum_cons, List.length_cons]
    have e : B * ((l.length + 1 : Nat) : Int) = B * (l.length : Int) + B := by rw [Int.natCast_add, Int.mul_add]; simp
    omega

def part (snt : Nat → Int → Bool) (t d i : Nat) (s : Syn) : Int :=
  if s.to.toNat = i ∧ (d : Int) < s.dl ∧ s.dl ≤ (t + d : Nat) ∧ snt (t + d - s.dl.toNat) s.frm = true then s.wt else 0

def dsum (N : Net) (snt : Nat → Int → Bool) (t d i : Nat) : Int := (N.syns.map (part snt t d i)).sum

theorem part_bound {N : Net} {snt : Nat → Int → Bool} {t d i : Nat} {s : Syn} (h : synOk N s) : -32768 ≤ part snt t d i s ∧ part snt t d i s ≤ 32768 := by
  have := h.2.2.1
  unfold part
  split <;> omega

theorem dsum_i64 {N : Net} (hN : NetOk N) (snt : Nat → Int → Bool) (t d i : Nat) : I64 (dsum N snt t d i) := by
  have := sysum_bound (B := 32768) (f := part snt t d i) (l := N.syns) fun s hs => part_bound (hN.syns s hs)
  have := hN.fewS
  unfold dsum I64
  omega

theorem part_next {N : Net} {snt : Nat → Int → Bool} {t d i : Nat} {s : Syn} (h : synOk N s) : part snt (t + 1) d i s = part snt t (d + 1) i s + (if snt t s.frm = true then inW d i s else 0) := by
  have h4 := h.2.2.2
  unfold part inW
  by_cases hi : s.to.toNat = i
  · simp only [hi, true_and, and_true]
    by_cases hd : s.dl.toNat = d + 1
    · have e : t + 1 + d - s.dl.toNat = t := by omega
      rw [e]
      have c1 : (d : Int) < s.dl ∧ s.dl ≤ ((t + 1 + d : Nat) : Int) := by omega
      have c2 : ¬ (((d + 1 : Nat) : Int) < s.dl) := by omega
      by_cases hs : snt t s.frm = true
      · rw [if_pos ⟨c1.1, c1.2, hs⟩, if_neg (fun h => c2 h.1), if_pos hs, if_pos (by omega)]; omega
      · rw [if_neg (fun h => hs h.2.2), if_neg (fun h => c2 h.1), if_neg hs]; rfl
    · have c3 : ¬ (s.dl.toNat - 1 = d) := by omega
      rw [if_neg c3]
      have e : t + 1 + d = t + (d + 1) := by omega
      rw [e]
      by_cases c : (d : Int) < s.dl ∧ s.dl ≤ ((t + (d + 1) : Nat) : Int) ∧ snt (t + (d + 1) - s.dl.toNat) s.frm = true
      · rw [if_pos c, if_pos ⟨by omega, c.2.1, c.2.2⟩]
        split <;> omega
      · rw [if_neg c, if_neg (fun h => c ⟨by have := h.1; omega, h.2⟩)]
        split <;> rfl
  · simp [hi]

theorem part_last {N : Net} {snt : Nat → Int → Bool} {t i : Nat} {s : Syn} (h : synOk N s) : part snt t 16 i s = 0 := by
  have h4 := h.2.2.2
  unfold part
  rw [if_neg (by omega)]

def DueIs (N : Net) (snt : Nat → Int → Bool) (t : Nat) (x : Sm) : Prop := ∀ d i : Nat, d < 16 → i < N.ps.length → cellD x.D d i = some (dsum N snt t d i)

theorem DueIs.step {N : Net} (hN : NetOk N) {snt : Nat → Int → Bool} {t : Nat} {x : Sm} (h : DueIs N snt t x) (hl : x.D.length = 16) {ins : List Int} (hs : ∀ s ∈ N.syns, (s.frm ∈ refSrcs N x ins) ↔ snt t s.frm = true) : DueIs N snt (t + 1) (refStep N x ins) := by
  intro d i hd hi
  have h0 : cellD (x.D.tail ++ [List.replicate N.ps.length 0]) d i = some (dsum N snt t (d + 1) i) := by
    rcases Nat.lt_or_ge d 15 with h15 | h15
    · have := h (d + 1) i (by omega) hi
      unfold cellD at this ⊢
      rw [List.getElem?_append_left (by rw [List.length_tail]; omega), List.getElem?_tail]
      exact this
    · have e : d = 15 := by omega
      subst e
      unfold cellD
      rw [List.getElem?_append_right (by rw [List.length_tail]; omega), List.length_tail, hl]
      simp only [Nat.reduceSub, Nat.sub_self, List.getElem?_cons_zero, Option.bind_some, List.getElem?_replicate, if_pos hi, Nat.reduceAdd]
      unfold dsum
      rw [sysum_congr (g := fun _ => 0) fun s hs => part_last (hN.syns s hs), sysum_zero]
  have h1 := cellD_fold (N.syns.filter fun s => decide (s.frm ∈ refSrcs N x ins)) h0 (dsum_i64 hN _ _ _ _)
  have e : dsum N snt t (d + 1) i + ((N.syns.filter fun s => decide (s.frm ∈ refSrcs N x ins)).map (inW d i)).sum = dsum N snt (t + 1) d i := by
    rw [sysum_filter]
    unfold dsum
    rw [sysum_add]
    refine sysum_congr fun s hs' => ?_
    rw [part_next (hN.syns s hs')]
    congr 1
    by_cases hc : snt t s.frm = true
    · rw [if_pos hc, if_pos (decide_eq_true ((hs s hs').2 hc))]
    · rw [if_neg hc, if_neg (by simp only [decide_eq_true_eq]; exact fun h => hc ((hs s hs').1 h))]
  rw [e, wr_id (dsum_i64 hN _ _ _ _)] at h1
  exact h1

def Pt (C : List (Option Sp)) (s : Sta) : Prop := ∀ k, cget C k = if k = s.rest then some ⟨s.v, s.v⟩ else none

theorem vnext_in {p : Par} (hp : ParOk p) {s : Sta} (hs : staOk p s) (x : Int) (hl : -1048576 ≤ leak p s.v ∧ leak p s.v ≤ 1048576) : vnext p s x = max p.fl (min 1048576 (leak p s.v + x + p.bias)) := by
  have h1 := hp.bias
  have h2 := hp.fl
  unfold vnext
  omega

theorem Pt.tk {p : Par} (hp : ParOk p) {C : List (Option Sp)} (hC : (C.length : Int) = p.rest + 1) {s : Sta} (hs : staOk p s) (h : Pt C s) (hl : -1048576 ≤ leak p s.v ∧ leak p s.v ≤ 1048576) (x : Int) :
    Pt (tickC p C ⟨x, x⟩) (tick p s x).1 ∧ tickV p C ⟨x, x⟩ = if (tick p s x).2 = true then 2 else 0 := by
  have hrest := hp.rest
  unfold staOk at hs
  have key : ∀ (k : Int), cget (tickC p C ⟨x, x⟩) k = if 0 ≤ k ∧ k < C.length then caseAt p C ⟨x, x⟩ k else none := by
    intro k
    split
    · rename_i h; exact cget_tick h.1 h.2
    · rename_i h
      by_cases h0 : k < 0
      · exact cget_neg h0
      · exact cget_big (by rw [tickC_len]; omega)
  have hv := vnext_in hp hs x hl
  have hlo : tlo p ⟨x, x⟩ ⟨s.v, s.v⟩ = vnext p s x := by rw [hv]; rfl
  have hhi : thi p ⟨x, x⟩ ⟨s.v, s.v⟩ = vnext p s x := by rw [hv]; rfl
  by_cases hr : 0 < s.rest
  · rw [tick_rest hr]
    have h0 : cget C 0 = none := by rw [h, if_neg (by omega)]
    refine ⟨fun k => ?_, by unfold tickV; rw [h0]; rfl⟩
    rw [key]
    unfold caseAt
    rw [h0, show contrO p ⟨x, x⟩ none k = none from rfl, jo_none, h]
    dsimp only
    by_cases hk : k = s.rest - 1
    · rw [if_pos (by omega), if_pos (by omega), if_pos hk]
    · rw [if_neg hk]
      split
      · rw [if_neg (by omega)]
      · rfl
  · have hr0 : s.rest = 0 := by omega
    have h0 : cget C 0 = some ⟨s.v, s.v⟩ := by rw [h, if_pos (by omega)]
    have hno : restsB C = false := by
      cases hb : restsB C with
      | false => rfl
      | true =>
        obtain ⟨k, hk, hne⟩ := restsB_iff.1 hb
        rw [h, if_neg (by omega)] at hne
        exact absurd rfl hne
    have hnx : ∀ k : Int, 0 ≤ k → cget C (k + 1) = none := fun k hk => by rw [h, if_neg (by omega)]
    have hca : ∀ k : Int, 0 ≤ k → caseAt p C ⟨x, x⟩ k = contr0 p ⟨x, x⟩ ⟨s.v, s.v⟩ k := fun k hk => by
      unfold caseAt
      rw [hnx k hk, none_jo, h0]
      rfl
    obtain ⟨V, hV⟩ : ∃ V, vnext p s x = V := ⟨_, rfl⟩
    rw [hV] at hlo hhi
    by_cases hth : V < p.th
    · rw [tick_low hV hr hth]
      refine ⟨fun k => ?_, by unfold tickV; rw [h0]; dsimp only; rw [hhi, if_pos hth]; rfl⟩
      rw [key]
      dsimp only
      by_cases hk : k = s.rest
      · rw [if_pos (by omega), if_pos hk, hca k (by omega)]
        unfold contr0 stayC spikeC
        rw [hlo, hhi, if_pos (by omega), if_pos hth, if_pos hth]
        have e : (if k = p.rest then (none : Option Sp) else none) = none := by split <;> rfl
        rw [e, jo_none, show min V (p.th - 1) = V by omega]
      · rw [if_neg hk]
        split
        · rename_i hin
          rw [hca k hin.1]
          unfold contr0 spikeC
          rw [hhi, if_neg (by omega), if_pos hth]
          split <;> rfl
        · rfl
    · have hsp : tick p s x = (⟨if p.rk = 1 then V - p.th else p.rs, p.rest⟩, true) := by
        unfold tick
        rw [if_neg hr, hV, if_neg hth]
      rw [hsp]
      refine ⟨fun k => ?_, by unfold tickV; rw [h0]; dsimp only; rw [hhi, hlo, if_neg hth, hno, if_neg (by simp; omega)]; rfl⟩
      rw [key]
      dsimp only
      have hst : stayC p ⟨x, x⟩ ⟨s.v, s.v⟩ = none := by unfold stayC; rw [hlo, if_neg hth]
      have hsk : spikeC p ⟨x, x⟩ ⟨s.v, s.v⟩ = some ⟨if p.rk = 1 then V - p.th else p.rs, if p.rk = 1 then V - p.th else p.rs⟩ := by
        unfold spikeC spikeS
        rw [hhi, hlo, if_neg hth]
        split
        · rw [show max V p.th = V by omega]
        · rfl
      have e : ∀ k : Int, (if k = 0 then (none : Option Sp) else none) = none := fun k => by split <;> rfl
      by_cases hk : k = p.rest
      · rw [if_pos (by omega), if_pos hk, hca k (by omega)]
        unfold contr0
        rw [hst, hsk, e, if_pos hk]; rfl
      · rw [if_neg hk]
        split
        · rename_i hin
          rw [hca k hin.1]
          unfold contr0
          rw [hst, e, if_neg hk]; rfl
        · rfl

end Go.Proofs
