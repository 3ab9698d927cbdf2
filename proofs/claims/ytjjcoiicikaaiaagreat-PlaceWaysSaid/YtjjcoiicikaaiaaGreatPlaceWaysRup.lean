import Derived.Test.YtjjcoiicikaaiaaGreatPlaceWaysWv
import Derived.Test.YtjjcoiicikaaiaaGreatPlaceWaysMg
import Derived.Test.YtjjcoiicikaaiaaGreatPlaceWaysMc
import Derived.Test.YtjjcoiicikaaiaaGreatPlaceWaysMl
import Derived.Test.YtjjcoiicikaaiaaGreatPlaceWaysWx
import Derived.Test.YtjjcoiicikaaiaaGreatPlaceWaysRuo
set_option linter.unusedVariables false
set_option linter.unusedSimpArgs false
set_option maxHeartbeats 4000000
section

namespace Go.Proofs

open Go Go.Vx Go.Gm

end Go.Proofs
end

section

namespace Go.Gm

end Go.Gm

namespace Go.Proofs

open Go Go.Vx Go.Gm

end Go.Proofs
end

section

namespace Go.Proofs

open Go Go.Vx Go.Gm

end Go.Proofs
end

section

namespace Go.Proofs

open Go Go.Vx Go.Gm

end Go.Proofs
end

section

namespace Go.Gm

end Go.Gm

namespace Go.Proofs

open Go Go.Vx Go.Gm

end Go.Proofs
end

section

namespace Go.Gm

theorem waveAdd_perm (T : Int → List Int) (room : Int) (ws : List (List Int)) (key : Int) : (waveAdd T room ws key).flatten.Perm (ws.flatten ++ [key]) := by
 rw [waveAdd_eq]
 have hle := waveIx_le T room ws key
 generalize waveIx T room ws key = k at hle ⊢
 split
 ·rename_i hlt
  rw [List.getElem?_eq_getElem hlt, Option.getD_some, List.set_eq_take_append_cons_drop, if_pos hlt]
  have e : ws = ws.take k ++ ws[k] :: ws.drop (k + 1) := by rw [← List.drop_eq_getElem_cons hlt, List.take_append_drop]
  have e2 : ws.flatten = (ws.take k).flatten ++ (ws[k] ++ (ws.drop (k + 1)).flatten) := by
   conv => lhs; rw [e]
   rw [List.flatten_append, List.flatten_cons]
  rw [e2, List.flatten_append, List.flatten_cons, List.append_assoc, List.append_assoc, List.append_assoc]
  exact List.Perm.append_left _ (List.Perm.append_left _ List.perm_append_comm)
 ·rw [List.flatten_append]; simp

theorem waves_perm (T : Int → List Int) (room : Int) (keys : List Int) : (wavesM T room keys).flatten.Perm keys := by
 have h : ∀ (keys : List Int) (ws : List (List Int)), (keys.foldl (waveAdd T room) ws).flatten.Perm (ws.flatten ++ keys) := by
  intro keys
  induction keys with
  | nil => intro ws; simp
  | cons k l ih =>
   intro ws
   rw [List.foldl_cons]
   refine (ih _).trans ?_
   have := (waveAdd_perm T room ws k).append_right l
   rw [List.append_assoc] at this
   exact this
 exact h keys []

end Go.Gm
end

section

namespace Go.Gm

theorem count_one {α : Type} [BEq α] [LawfulBEq α] : ∀ {l : List α} {a : α}, l.Nodup → a ∈ l → l.count a = 1
 | [], a, _, h => by simp at h
 | x :: l, a, hn, h => by
  rw [List.nodup_cons] at hn
  rw [List.count_cons]
  by_cases hx : x = a
  ·subst hx
   rw [List.count_eq_zero.2 hn.1]; simp
  ·have h1 := count_one hn.2 ((List.mem_cons.1 h).resolve_left fun e => hx e.symm)
   rw [h1, if_neg (by simpa using hx)]

theorem flat_uniq {ws : List (List Int)} (hn : ws.flatten.Nodup) : ∀ {i j : Nat} {a b : List Int} {k : Int}, ws[i]? = some a → ws[j]? = some b → k ∈ a → k ∈ b → i = j := by
 induction ws with
 | nil => intro i j a b k h; cases h
 | cons x l ih =>
  rw [List.flatten_cons, List.nodup_append] at hn
  obtain ⟨h1, h2, h3⟩ := hn
  intro i j a b k hi hj ha hb
  rcases i with _ | i <;> rcases j with _ | j
  ·rfl
  ·simp only [List.getElem?_cons_zero, Option.some.injEq] at hi
   rw [List.getElem?_cons_succ] at hj
   subst hi
   exact absurd rfl (h3 k ha k (List.mem_flatten.2 ⟨b, List.mem_of_getElem? hj, hb⟩))
  ·simp only [List.getElem?_cons_zero, Option.some.injEq] at hj
   rw [List.getElem?_cons_succ] at hi
   subst hj
   exact absurd rfl (h3 k hb k (List.mem_flatten.2 ⟨a, List.mem_of_getElem? hi, ha⟩))
  ·rw [List.getElem?_cons_succ] at hi hj
   rw [ih h2 hi hj ha hb]

theorem waveOf_iff {ws : List (List Int)} (hn : ws.flatten.Nodup) {k : Int} {w : Nat} : waveOf ws k = (w : Int) ↔ ∃ l, ws[w]? = some l ∧ k ∈ l := by
 unfold waveOf
 cases h : ws.findIdx? fun w => decide (k ∈ w) with
 | none =>
  rw [List.findIdx?_eq_none_iff] at h
  constructor
  ·intro he; dsimp only at he; omega
  ·rintro ⟨l, h1, h2⟩
   have := h l (List.mem_of_getElem? h1)
   rw [decide_eq_false_iff_not] at this
   exact absurd h2 this
 | some j =>
  rw [List.findIdx?_eq_some_iff_getElem] at h
  obtain ⟨h1, h2, h3⟩ := h
  rw [decide_eq_true_eq] at h2
  have hj : ws[j]? = some ws[j] := List.getElem?_eq_getElem h1
  constructor
  ·intro he
   have : j = w := by dsimp only at he; omega
   subst this
   exact ⟨_, hj, h2⟩
  ·rintro ⟨l, h4, h5⟩
   have := flat_uniq hn hj h4 h2 h5
   dsimp only; omega

theorem waveOf_ge (ws : List (List Int)) (k : Int) : -1 ≤ waveOf ws k ∧ waveOf ws k < ws.length := by
 unfold waveOf
 cases h : ws.findIdx? fun w => decide (k ∈ w) with
 | none => dsimp only; omega
 | some j =>
  rw [List.findIdx?_eq_some_iff_getElem] at h
  have := h.1
  dsimp only; omega

theorem wave_room {T : Int → List Int} {room : Int} (h1 : 1 ≤ room) : ∀ (keys : List Int) (ws : List (List Int)), (∀ w ∈ ws, (mostM (w.map T) : Int) ≤ room) → ∀ w ∈ keys.foldl (waveAdd T room) ws, (mostM (w.map T) : Int) ≤ room
 | [], ws, h => h
 | key :: l, ws, h => by
  refine wave_room h1 l _ ?_
  intro w hw
  unfold waveAdd at hw
  split at hw
  ·rename_i k hk
   rw [List.findIdx?_eq_some_iff_getElem] at hk
   obtain ⟨a1, a2, _⟩ := hk
   obtain ⟨i, hi⟩ := List.getElem?_of_mem hw
   rw [List.getElem?_modify] at hi
   split at hi
   ·rename_i hki
    subst hki
    rw [List.getElem?_eq_getElem a1] at hi
    cases hi
    rw [List.map_append]
    exact (takes_iff (h _ (List.getElem_mem _)) h1).1 a2
   ·cases hx : ws[i]? with
    | none => rw [hx] at hi; cases hi
    | some x =>
     rw [hx] at hi
     cases hi
     exact h _ (List.mem_of_getElem? hx)
  ·rcases List.mem_append.1 hw with hw | hw
   ·exact h w hw
   ·rw [List.mem_singleton] at hw
    subst hw
    rcases (mostM_is ([key].map T)).ex with he | ⟨o, ho, he⟩
    ·omega
    ·have : cntM ([key].map T) o ≤ 1 := List.countP_le_length
     omega

theorem wave_ne {T : Int → List Int} {room : Int} : ∀ (keys : List Int) (ws : List (List Int)), (∀ w ∈ ws, w ≠ []) → ∀ w ∈ keys.foldl (waveAdd T room) ws, w ≠ []
 | [], ws, h => h
 | key :: l, ws, h => by
  refine wave_ne l _ ?_
  intro w hw
  unfold waveAdd at hw
  split at hw
  ·obtain ⟨i, hi⟩ := List.getElem?_of_mem hw
   rw [List.getElem?_modify] at hi
   split at hi
   ·rename_i k hk hki
    cases hx : ws[i]? with
    | none => rw [hx] at hi; cases hi
    | some x =>
     rw [hx] at hi
     cases hi
     simp
   ·cases hx : ws[i]? with
    | none => rw [hx] at hi; cases hi
    | some x =>
     rw [hx] at hi
     cases hi
     exact h _ (List.mem_of_getElem? hx)
  ·rcases List.mem_append.1 hw with hw | hw
   ·exact h w hw
   ·rw [List.mem_singleton] at hw; subst hw; simp

section

variable {N : Net} {C : Chp} {cores : List Int}

def wvT (N : Net) (C : Chp) (cores : List Int) (w : Nat) : List Int := ((wavesF N C cores)[w]?).getD []

def wvK (N : Net) (C : Chp) (cores : List Int) (w : Nat) : List Int := ((List.range (nSrc N)).map fun (k : Nat) => (k : Int)).filter fun k => decide (waveOf (wavesF N C cores) k = (w : Int))

def wvL (N : Net) (C : Chp) (cores : List Int) (w : Nat) : Nat := mostM ((wvT N C cores w).map (srcTree N C cores))

def wvC (N : Net) (C : Chp) (cores : List Int) (w : Nat) : RCtx := wayCtx N C cores (wvK N C cores w) (wvL N C cores w)

def wvD (N : Net) (C : Chp) (cores : List Int) (w : Nat) : Nat := reachM C.mesh.wide (homeM N cores) (coresM N C cores) (wvT N C cores w)

def wvS (N : Net) (C : Chp) (cores : List Int) (w : Nat) : RunS := runM C.mesh (tablesF N C cores) (wvC N C cores w).pk (nCores C) 10000

theorem waves_nodup (N : Net) (C : Chp) (cores : List Int) : (wavesF N C cores).flatten.Nodup := (waves_perm _ _ _).nodup_iff.2 (keysM_nodup N)

theorem waves_mem {key : Int} : (∃ l ∈ wavesF N C cores, key ∈ l) ↔ key ∈ keysM N := mem_wavesM _

theorem wvK_mem {w : Nat} {k : Int} : k ∈ wvK N C cores w ↔ ∃ l, (wavesF N C cores)[w]? = some l ∧ k ∈ l := by
 unfold wvK
 rw [List.mem_filter, decide_eq_true_eq, waveOf_iff (waves_nodup N C cores)]
 constructor
 ·exact fun h => h.2
 ·rintro ⟨l, h1, h2⟩
  refine ⟨?_, l, h1, h2⟩
  have := (keys_src (waves_mem.1 ⟨l, List.mem_of_getElem? h1, h2⟩)).1
  exact List.mem_map.2 ⟨k.toNat, List.mem_range.2 (by omega), by omega⟩

theorem wvK_keys {w : Nat} {k : Int} (h : k ∈ wvK N C cores w) : k ∈ keysM N := by
 obtain ⟨l, h1, h2⟩ := wvK_mem.1 h
 exact waves_mem.1 ⟨l, List.mem_of_getElem? h1, h2⟩

theorem wvK_nodup (w : Nat) : (wvK N C cores w).Nodup := List.Pairwise.filter _ (List.Pairwise.map _ (fun a b h e => h (by omega)) List.nodup_range)

theorem wvK_perm {w : Nat} {l : List Int} (hl : (wavesF N C cores)[w]? = some l) : (wvK N C cores w).Perm l := by
 have hn : l.Nodup := by
  exact (waves_nodup N C cores).sublist (List.sublist_flatten_of_mem (List.mem_of_getElem? hl))
 refine (List.perm_ext_iff_of_nodup (wvK_nodup w) hn).2 fun k => ?_
 rw [wvK_mem]
 constructor
 ·rintro ⟨l', h1, h2⟩
  rw [hl] at h1; cases h1; exact h2
 ·exact fun h => ⟨l, hl, h⟩

theorem reach_le {W : Int} {home : Int → Int} {tg : Int → List Int} {l : List Int} {key t : Int} (hk : key ∈ l) (ht : t ∈ tg key) : distM W (home key) t ≤ reachM W home tg l :=
 (foldl_maxN _ 0).2.1 _ (List.mem_flatMap.2 ⟨key, hk, List.mem_map.2 ⟨t, ht, rfl⟩⟩)

theorem way_dist {W : Int} (hW : 0 < W) {src t r : Int} (h : r ∈ rte W src t) : distM W src r ≤ distM W src t := by
 obtain ⟨a, b, h1⟩ := at2 hW src
 obtain ⟨c, d, h2⟩ := at2 hW t
 obtain ⟨x, y, h3⟩ := at2 hW r
 have := rte_on hW h2 _ src rfl h1 h3 h
 rw [dist_at h1 h3, dist_at h1 h2]
 unfold onWay betw at this
 omega

theorem wv_ok (hA : AsgOk N C cores) {w : Nat} (hw : w < (wavesF N C cores).length) : RCtxOk (wvC N C cores w) ∧ wvL N C cores w ≤ 64 ∧ wvD N C cores w ≤ 14 := by
 obtain ⟨l, hl⟩ : ∃ l, (wavesF N C cores)[w]? = some l := ⟨_, List.getElem?_eq_getElem hw⟩
 have hT : wvT N C cores w = l := by unfold wvT; rw [hl]; rfl
 have hrm := hA.plan.chip.mesh.room
 have hr : (wvL N C cores w : Int) ≤ C.mesh.room := by
  unfold wvL
  rw [hT]
  exact wave_room hrm.1 (keysM N) [] (by simp) l (List.mem_of_getElem? hl)
 refine ⟨way_ok hA (fun k hk => wvK_keys hk) (fun r o ho => ?_) hr, by omega, ?_⟩
 ·unfold wvL
  rw [hT]
  have h1 : cntM ((wvK N C cores w).map (srcTree N C cores)) ((r : Nat), pow2 o) = cntM (l.map (srcTree N C cores)) ((r : Nat), pow2 o) := by
   unfold cntM
   exact ((wvK_perm hl).map _).countP_eq _
  rw [h1]
  exact (mostM_is _).le _ ⟨by dsimp only; omega, pow_isOut ho⟩
 ·have hn := nCores_ok hA.plan.chip
  have hw2 := hA.plan.chip.mesh.wide
  have hh := hA.plan.chip.mesh.high
  unfold wvD
  rw [hT]
  unfold reachM
  rcases (foldl_maxN (l.flatMap fun key => (coresM N C cores key).map fun t => distM C.mesh.wide (homeM N cores key) t) 0).2.2 with h | h
  ·omega
  ·obtain ⟨key, h1, h2⟩ := List.mem_flatMap.1 h
   obtain ⟨t, h3, h4⟩ := List.mem_map.1 h2
   rw [← h4]
   have hk := (keys_src (waves_mem.1 ⟨l, List.mem_of_getElem? hl, h1⟩)).1.1
   have h5 := home_range hA key hk
   have h6 := (mem_coresM.1 h3).1
   have := dist_le (W := C.mesh.wide) (H := C.mesh.high) (r := homeM N cores key) (t := t) (by omega) (by omega) (by omega)
   omega

theorem wv_done (hA : AsgOk N C cores) {w : Nat} (hw : w < (wavesF N C cores).length) : RunDone (wvC N C cores w) (wvS N C cores w) := by
 obtain ⟨h1, h2, h3⟩ := wv_ok hA hw
 obtain ⟨l, hl⟩ : ∃ l, (wavesF N C cores)[w]? = some l := ⟨_, List.getElem?_eq_getElem hw⟩
 have hT : wvT N C cores w = l := by unfold wvT; rw [hl]; rfl
 have hlen : (wvC N C cores w).pk.length = (wvK N C cores w).length := List.length_map _
 refine run_done h1 (D := wvD N C cores w) (T := 10000) (fun p r hp hr h0 => ?_) (way_reach hA fun k hk => wvK_keys hk) ?_ (by omega)
 ·rw [hlen] at hp
  have hkm : (wvK N C cores w)[p]?.getD 0 ∈ wvK N C cores w := by rw [List.getElem?_eq_getElem hp]; exact List.getElem_mem _
  have hk0 := (keys_src (wvK_keys hkm)).1.1
  obtain ⟨t, h4, h5⟩ := (way_nz hA hk0).1 h0
  have hw2 := hA.plan.chip.mesh.wide
  refine Nat.le_trans (way_dist (by omega) h5) ?_
  unfold wvD
  rw [hT]
  obtain ⟨l', h6, h7⟩ := wvK_mem.1 hkm
  rw [hl] at h6; cases h6
  exact reach_le h7 h4
 ·have : (wvD N C cores w + 1) * (wvC N C cores w).L ≤ 15 * 64 := Nat.mul_le_mul (by omega) h2
  omega

theorem wv_time (hA : AsgOk N C cores) {w : Nat} (hw : w < (wavesF N C cores).length) {p r t : Nat} (h : (p, r, t) ∈ (wvS N C cores w).arr) : t + 1 ≤ (wvD N C cores w + 1) * wvL N C cores w := by
 obtain ⟨l, hl⟩ : ∃ l, (wavesF N C cores)[w]? = some l := ⟨_, List.getElem?_eq_getElem hw⟩
 have hT : wvT N C cores w = l := by unfold wvT; rw [hl]; rfl
 have hlen : (wvC N C cores w).pk.length = (wvK N C cores w).length := List.length_map _
 obtain ⟨h1, h2, h3, h4⟩ := (wv_done hA hw).ar p r t h
 rw [hlen] at h1
 have hkm : (wvK N C cores w)[p]?.getD 0 ∈ wvK N C cores w := by rw [List.getElem?_eq_getElem h1]; exact List.getElem_mem _
 have hk0 := (keys_src (wvK_keys hkm)).1.1
 have h5 := (way_here hA hk0).1 h3
 refine Nat.le_trans h4 (Nat.mul_le_mul_right _ (Nat.succ_le_succ ?_))
 show distM C.mesh.wide (homeM N cores ((wvK N C cores w)[p]?.getD 0)) (r : Int) ≤ _
 unfold wvD
 rw [hT]
 obtain ⟨l', h6, h7⟩ := wvK_mem.1 hkm
 rw [hl] at h6; cases h6
 exact reach_le h7 h5

theorem wv_arr (hA : AsgOk N C cores) {w : Nat} (hw : w < (wavesF N C cores).length) {p : Nat} {key : Int} (hp : (wvK N C cores w)[p]? = some key) : (∀ a ∈ (wvS N C cores w).arr, a.2.1 < nCores C) ∧
  ∀ r, r < nCores C → ((wvS N C cores w).arr.countP fun a => decide (a.1 = p ∧ a.2.1 = r)) = if (r : Int) ∈ coresM N C cores key then 1 else 0 := by
 have hd := wv_done hA hw
 have hlen : (wvC N C cores w).pk.length = (wvK N C cores w).length := List.length_map _
 have hp2 := (List.getElem?_eq_some_iff.1 hp).1
 have hk0 := (keys_src (wvK_keys (List.mem_of_getElem? hp))).1.1
 have hhas : ∀ r, (wvC N C cores w).has p r 4 ↔ (r : Int) ∈ coresM N C cores key := fun r => by
  have := way_here hA hk0 (r := r)
  unfold RCtx.has
  show hasB ((srcTree N C cores ((wvK N C cores w)[p]?.getD 0))[r]?.getD 0) (pow2 4) ↔ _
  rw [hp]
  exact this
 refine ⟨fun a ha => (hd.ar a.1 a.2.1 a.2.2 ha).2.1, fun r hr => ?_⟩
 have hcnt : ((wvS N C cores w).arr.countP fun a => decide (a.1 = p ∧ a.2.1 = r)) = ((wvS N C cores w).arr.map fun x => (x.1, x.2.1)).count (p, r) := by
  rw [List.count, List.countP_map]
  refine List.countP_congr fun a _ => ?_
  simp only [decide_eq_true_eq, Function.comp, beq_iff_eq, Prod.mk.injEq]
 rw [hcnt]
 by_cases h : (r : Int) ∈ coresM N C cores key
 ·rw [if_pos h]
  obtain ⟨t, ht⟩ := hd.aa p r (by omega) hr ((hhas r).2 h)
  exact count_one hd.an (List.mem_map.2 ⟨(p, r, t), ht, rfl⟩)
 ·rw [if_neg h]
  refine List.count_eq_zero.2 fun hm => ?_
  obtain ⟨⟨a, b, t⟩, h1, h2⟩ := List.mem_map.1 hm
  simp only [Prod.mk.injEq] at h2
  obtain ⟨rfl, rfl⟩ := h2
  exact h ((hhas _).1 (hd.ar _ _ t h1).2.2.1)

end

end Go.Gm
end
