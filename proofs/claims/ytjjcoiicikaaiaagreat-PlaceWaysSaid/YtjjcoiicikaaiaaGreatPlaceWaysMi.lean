import Derived.Test.YtjjcoiicikaaiaaGreatPlaceWaysDm
import Derived.Test.YtjjcoiicikaaiaaGreatPlaceWaysMg
import Derived.Test.YtjjcoiicikaaiaaGreatPlaceWaysSy
set_option linter.unusedVariables false
set_option linter.unusedSimpArgs false
set_option maxHeartbeats 4000000
section

namespace Go.Vx

open Go

structure Vis (es : Array MapEntry) (seen : Array Nat) (vs : List MapEntry) : Prop where
 seen : seen.toList = vs.map (·.born)
 sub : ∀ y ∈ vs, y ∈ es.toList
 nodup : vs.Nodup

def leftV (es : Array MapEntry) (seen : Array Nat) : Nat := es.toList.countP fun x => decide (x.born ∉ seen)

theorem leftV_push {es : Array MapEntry} {seen : Array Nat} {x : MapEntry} (hx : x ∈ es.toList) (hn : x.born ∉ seen) : leftV es (seen.push x.born) < leftV es seen := by
 unfold leftV
 have key : ∀ l : List MapEntry, x ∈ l → l.countP (fun y => decide (y.born ∉ seen.push x.born)) < l.countP (fun y => decide (y.born ∉ seen)) := by
  intro l
  induction l with
  | nil => intro h; cases h
  | cons y l ih =>
   intro h
   have hle : ∀ l : List MapEntry, l.countP (fun y => decide (y.born ∉ seen.push x.born)) ≤ l.countP (fun y => decide (y.born ∉ seen)) := by
    intro l
    refine List.countP_mono_left fun z _ hz => ?_
    simp only [decide_eq_true_eq, Array.mem_push, not_or] at hz ⊢
    exact hz.1
   rw [List.countP_cons, List.countP_cons]
   by_cases e : y = x
   ·subst e
    have h1 := hle l
    have h2 : decide (y.born ∉ seen.push y.born) = false := by simp
    have h3 : decide (y.born ∉ seen) = true := decide_eq_true hn
    rw [h2, h3]
    simp only [Bool.false_eq_true, if_false, if_true]
    omega
   ·have h1 := ih ((List.mem_cons.1 h).resolve_left fun e2 => e e2.symm)
    by_cases h2 : y.born ∈ seen.push x.born
    ·have h3 : decide (y.born ∉ seen.push x.born) = false := decide_eq_false (fun h => h h2)
     rw [h3]
     simp only [Bool.false_eq_true, if_false]
     split <;> omega
    ·have h3 : y.born ∉ seen := fun h3 => h2 (Array.mem_push_of_mem _ h3)
     have h4 : decide (y.born ∉ seen.push x.born) = true := decide_eq_true h2
     have h5 : decide (y.born ∉ seen) = true := decide_eq_true h3
     rw [h4, h5]
     simp only [if_true]
     omega
 exact key _ hx

theorem Vis.nil (es : Array MapEntry) : Vis es #[] [] := ⟨rfl, by simp, List.nodup_nil⟩

theorem born_inj {es : Array MapEntry} {clock : Nat} (hst : MapKept.Stamped es clock) {x y : MapEntry} (hx : x ∈ es.toList) (hy : y ∈ es.toList) (h : x.born = y.born) : x = y := by
 obtain ⟨i, hi⟩ := List.getElem?_of_mem hx
 obtain ⟨j, hj⟩ := List.getElem?_of_mem hy
 have e1 : (es.toList.map (·.born))[i]? = some x.born := by rw [List.getElem?_map, hi]; rfl
 have e2 : (es.toList.map (·.born))[j]? = some x.born := by rw [List.getElem?_map, hj, h]; rfl
 have e3 := (List.getElem?_inj (List.getElem?_eq_some_iff.1 e1).1 hst.2.1).1 (e1.trans e2.symm)
 subst e3
 rw [hi] at hj
 exact Option.some.inj hj

theorem born_find {es : Array MapEntry} {clock : Nat} (hst : MapKept.Stamped es clock) {x : MapEntry} (hx : x ∈ es.toList) : es.find? (fun e => e.born == x.born) = some x := by
 rw [← Array.find?_toList]
 cases h : es.toList.find? (fun e => e.born == x.born) with
 | none =>
  have := List.find?_eq_none.1 h x hx
  simp at this
 | some y =>
  have h1 := List.mem_of_find?_eq_some h
  have h2 := List.find?_some h
  simp only [beq_iff_eq] at h2
  rw [born_inj hst h1 hx h2]

theorem Vis.next {es : Array MapEntry} {seen : Array Nat} {vs : List MapEntry} (h : Vis es seen vs) {x : MapEntry} (hx : x ∈ es.toList) (hn : x.born ∉ seen) : Vis es (seen.push x.born) (vs ++ [x]) := by
 refine ⟨by rw [Array.toList_push, h.seen, List.map_append]; rfl, fun y hy => ?_, ?_⟩
 ·rcases List.mem_append.1 hy with hy | hy
  ·exact h.sub y hy
  ·rw [List.mem_singleton] at hy; subst hy; exact hx
 ·rw [List.nodup_append]
  refine ⟨h.nodup, by simp, fun a ha b hb e => ?_⟩
  rw [List.mem_singleton] at hb
  subst hb; subst e
  refine hn ?_
  rw [← Array.mem_toList_iff, h.seen]
  exact List.mem_map_of_mem ha

theorem Vis.done {es : Array MapEntry} {clock : Nat} (hst : MapKept.Stamped es clock) {seen : Array Nat} {vs : List MapEntry} (h : Vis es seen vs) (hall : ∀ x ∈ es.toList, x.born ∈ seen) : vs.Perm es.toList := by
 have hnd : es.toList.Nodup := by
  have := hst.2.1
  rw [List.Nodup, List.pairwise_map] at this
  exact this.imp fun h1 e => h1 (by rw [e])
 refine (List.perm_ext_iff_of_nodup h.nodup hnd).2 fun y => ⟨h.sub y, fun hy => ?_⟩
 have := hall y hy
 rw [← Array.mem_toList_iff, h.seen, List.mem_map] at this
 obtain ⟨z, hz, he⟩ := this
 rw [born_inj hst (h.sub z hz) hy he] at hz
 exact hz

theorem nodup_len {α : Type} [DecidableEq α] : ∀ {l m : List α}, l.Nodup → (∀ x ∈ l, x ∈ m) → l.length ≤ m.length
 | [], _, _, _ => Nat.zero_le _
 | x :: l, m, h, hs => by
  rw [List.nodup_cons] at h
  have hx := hs x List.mem_cons_self
  have h1 := nodup_len (l := l) (m := m.erase x) h.2 fun y hy => (List.mem_erase_of_ne fun e => h.1 (by rw [← e]; exact hy)).2 (hs y (List.mem_cons_of_mem _ hy))
  rw [List.length_erase_of_mem hx] at h1
  have := List.length_pos_of_mem hx
  rw [List.length_cons]; omega

theorem Vis.len {es : Array MapEntry} {clock : Nat} (hst : MapKept.Stamped es clock) {seen : Array Nat} {vs : List MapEntry} (h : Vis es seen vs) : vs.length ≤ es.size := by
 have h1 : (vs.map (·.born)).Nodup := by
  rw [List.Nodup, List.pairwise_map]
  exact h.nodup.imp_of_mem fun ha hb hne e => hne (born_inj hst (h.sub _ ha) (h.sub _ hb) e)
 have h2 := nodup_len (m := es.toList.map (·.born)) h1 fun x hx => by
  obtain ⟨y, hy, rfl⟩ := List.mem_map.1 hx
  exact List.mem_map_of_mem (h.sub y hy)
 rw [List.length_map, List.length_map] at h2
 simpa using h2

theorem HLe.mapBack {H H' r : HP} {u : Ent → HP} {b clock : Nat} {es : Array MapEntry} {m : List (Int × Value)} (h : At H (.obj b (.map es clock)) u r) (hes : es.toList.map (fun x => (x.key, x.val)) = m.map (fun x => (Value.int .i64 x.1, x.2))) (hst : MapKept.Stamped es clock) (hr : HLe H' r) : HLe (.map b m :: H') H :=
 HLe.weak h hr (fun w hw => ⟨es, clock, hw, hes, hst⟩) rfl

theorem vis_pick {α : Type} {f : α → Int × Value} {es : Array MapEntry} {l : List α} (hes : es.toList.map (fun x => (x.key, x.val)) = (l.map f).map (fun x => (Value.int .i64 x.1, x.2))) {x : MapEntry} (hx : x ∈ es.toList) :
  ∃ d ∈ l, x.key = .int .i64 (f d).1 ∧ x.val = (f d).2 := by
 have h1 : (x.key, x.val) ∈ es.toList.map (fun x => (x.key, x.val)) := List.mem_map_of_mem (f := fun x : MapEntry => (x.key, x.val)) hx
 rw [hes, List.map_map] at h1
 obtain ⟨d, hd, he⟩ := List.mem_map.1 h1
 simp only [Function.comp_apply, Prod.mk.injEq] at he
 exact ⟨d, hd, he.1.symm, he.2.symm⟩

def keyI : Value → Int
 | .int _ n => n
 | _ => 0

theorem vis_keys {α : Type} {f : α → Int × Value} {es : Array MapEntry} {l : List α} (hes : es.toList.map (fun x => (x.key, x.val)) = (l.map f).map (fun x => (Value.int .i64 x.1, x.2))) {vs : List MapEntry} (h : vs.Perm es.toList) : (vs.map fun x => keyI x.key).Perm (l.map fun d => (f d).1) := by
 have h1 : (vs.map fun x => keyI x.key).Perm (es.toList.map fun x => keyI x.key) := h.map _
 have h2 : es.toList.map (fun x => keyI x.key) = l.map fun d => (f d).1 := by
  have := congrArg (fun L => L.map fun p : Value × Value => keyI p.1) hes
  simp only [List.map_map] at this
  exact this
 rw [h2] at h1
 exact h1

theorem mfind_absent {m : List (Int × Value)} {j : Int} (h : ∀ p ∈ m, p.1 ≠ j) : mfind m j = none ∧ ∀ v, mset m j v = m ++ [(j, v)] := by
 induction m with
 | nil => exact ⟨rfl, fun _ => rfl⟩
 | cons p r ih =>
  obtain ⟨h1, h2⟩ := ih fun q hq => h q (List.mem_cons_of_mem _ hq)
  have hp := h p List.mem_cons_self
  obtain ⟨a, v0⟩ := p
  constructor
  ·simp only [mfind]
   rw [if_neg hp]; exact h1
  ·intro v
   simp only [mset]
   rw [if_neg hp, h2]; rfl

end Go.Vx
end

section

namespace Go.Proofs

open Go Go.Vx Go.Gm

theorem _root_.Go.Vx.VSl.off {b o size l h c : Nat} {li hi ci : Int} {k : Option Addr → Nat → Nat → Prop} (e1 : li = (l : Int)) (e2 : hi = (h : Int)) (e3 : ci = (c : Int)) (h1 : l ≤ h) (h2 : h ≤ c)
  (hk : ∀ off, (l < c → off = o + l * size) → k (some ⟨b, off, none⟩) (h - l) (c - l)) : VSl (some ⟨b, o, none⟩) size li hi ci k := by
 subst e1; subst e2; subst e3
 refine .mk (by omega) (by omega) (by omega) fun q hq1 hq2 => ?_
 rw [Int.toNat_natCast, Int.toNat_natCast, Int.toNat_natCast]
 by_cases hc : l < c
 ·have := hq1 (by omega)
  rw [this, Int.toNat_natCast, Option.map_some, addr_add]
  exact hk _ fun _ => rfl
 ·have := hq2 (by omega)
  rw [this]
  exact hk _ fun h => absurd h hc

theorem etyV_upd (x y : Ety) : upd (etyV x) 0 (etyV y) = some (etyV y) := rfl

theorem cloneEty_any (l : List Ety) (p : Option Addr) (c b o : Nat) (w : World) (h1 : Sl w etyV 3 l p l.length b o) (hb : l.length ≤ 65536) :
  Calls Tryz.prog 124 #[.slice p l.length c] w fun e w' => ∃ x : Option Addr × Nat, e = .returned (.slice x.1 l.length x.2) ∧ (0 < l.length → ∃ g, x.1 = some ⟨g, 0, none⟩) ∧ St w [] [.vec x.1 l.length x.2 98 3 (flat etyV l)] w' := by
 have hs := h1.src (w0 := w) (M := []) (H := []) (by simp) (fun _ => rfl)
 clear hs
 rcases h1.cases with ⟨a, h2⟩ | ⟨h2, h3⟩
 ·subst h2
  refine enter (C := Tryz.cx) (F := Tryz.fx124) (args := [_]) Tryz.func124 rfl rfl rfl Tryz.ok124 (St.start w []) ?_
  repeat' (conv => whnf); first | (refine VAp.is ?_; refine VAp.own aT (h1.src (by simp) (fun _ => rfl)) (flat_one_cell (by simp [etyV, Value.oneCell'])) ((by (try dsimp only); omega)) (by simp only [maxLen]; omega) fun p' cap' hp' => ?_) | (refine VSeq.go ?_) | (refine VNew.mk fun _ => ?_)
  all_goals (conv => whnf)
  refine ⟨fun w' hw' => ⟨(p', cap'), by simp [packE], fun h => hp' (by omega), ?_⟩⟩
  rw [Nat.zero_add] at hw'
  exact hw'.le aH
 ·subst h2
  have hl : l = [] := List.eq_nil_of_length_eq_zero h3
  subst hl
  refine enter (C := Tryz.cx) (F := Tryz.fx124) (args := [_]) Tryz.func124 rfl rfl rfl Tryz.ok124 (St.start w []) ?_
  repeat' (conv => whnf); first | (refine VSeq.go ?_) | (refine VB.is ?_; refine VB.no (by omega) fun _ => ?_)
  all_goals (conv => whnf)
  exact ⟨fun w' hw' => ⟨(none, 0), rfl, fun h => absurd h (by simp), hw'.le (.nilv .nil)⟩⟩

theorem delete_call {w0 : World} {H : HP} {K : Value → HP → Prop} (gq cq : Nat) (L : List Ety) (hnb : L.length ≤ 65536) (j : Nat) (hj : j < L.length)
  (hK0 : K (.slice (some ⟨gq, 0, none⟩) (L.length - 1) cq) (.vec (some ⟨gq, 0, none⟩) (L.length - 1) cq 98 3 (flat etyV (L.eraseIdx j)) :: H)) :
  VCall Tryz.cx.P w0 [] (.vec (some ⟨gq, 0, none⟩) L.length cq 98 3 (flat etyV L) :: H) 162 [.slice (some ⟨gq, 0, none⟩) L.length cq, .int .i64 (j : Int), .int .i64 ((j : Int) + 1)] K := by
 refine VCall.hle ?_
 refine VCall.inl (F := Tryz.fx162) Tryz.func162 rfl rfl rfl Tryz.ok162 ?_
 have e3 : ∀ x : Ety, (etyV x).length = 3 := fun _ => rfl
 have hfl : (flat etyV L).length = L.length * 3 := flat_length e3
 obtain ⟨news, hnews⟩ : ∃ news, ((flat etyV L).drop ((j + 1) * 3)).take ((L.length - (j + 1)) * 3) = news := ⟨_, rfl⟩
 have hnews2 : news = flat etyV (L.drop (j + 1)) := by
  rw [← hnews]
  have e1 : flat etyV L = flat etyV (L.take (j + 1)) ++ flat etyV (L.drop (j + 1)) := by rw [← flat_append, List.take_append_drop]
  have e2 : (flat etyV (L.take (j + 1))).length = (j + 1) * 3 := by rw [flat_length e3, List.length_take]; congr 1; omega
  rw [e1, ← e2, List.drop_left]
  exact List.take_of_length_le (by rw [flat_length e3, List.length_drop]; omega)
 have hnl : news.length = (L.length - (j + 1)) * 3 := by rw [hnews2, flat_length e3, List.length_drop]
 have hone : ∀ v ∈ news, v.oneCell' = true := by
  rw [hnews2]
  exact flat_one_cell (by simp [etyV, Value.oneCell'])
 have hM : (flat etyV L).take (j * 3) ++ news ++ (flat etyV L).drop (j * 3 + (L.length - (j + 1)) * 3) = flat etyV (L.take j ++ L.drop (j + 1) ++ L.drop (L.length - 1)) := by
  have e1 : flat etyV L = flat etyV (L.take j) ++ flat etyV (L.drop j) := by rw [← flat_append, List.take_append_drop]
  have e2 : (flat etyV (L.take j)).length = j * 3 := by rw [flat_length e3, List.length_take]; congr 1; omega
  have e4 : flat etyV L = flat etyV (L.take (L.length - 1)) ++ flat etyV (L.drop (L.length - 1)) := by rw [← flat_append, List.take_append_drop]
  have e5 : (flat etyV (L.take (L.length - 1))).length = j * 3 + (L.length - (j + 1)) * 3 := by rw [flat_length e3, List.length_take]; omega
  have e6 : (flat etyV L).take (j * 3) = flat etyV (L.take j) := by rw [e1, ← e2, List.take_left]
  have e7 : (flat etyV L).drop (j * 3 + (L.length - (j + 1)) * 3) = flat etyV (L.drop (L.length - 1)) := by
   rw [e4, ← e5, List.drop_left]
  rw [e6, e7, hnews2, flat_append, flat_append]
 obtain ⟨M, hMd⟩ : ∃ M, L.take j ++ L.drop (j + 1) ++ L.drop (L.length - 1) = M := ⟨_, rfl⟩
 have hMl : M.length = (L.length - 1) + 1 := by
  rw [← hMd]
  simp only [List.length_append, List.length_take, List.length_drop]; omega
 have hMt : M.take (L.length - 1) = L.eraseIdx j := by
  rw [← hMd, List.eraseIdx_eq_take_drop_succ, List.take_append_of_le_length (by simp only [List.length_append, List.length_take, List.length_drop]; omega), List.take_of_length_le (by simp only [List.length_append, List.length_take, List.length_drop]; omega)]
 rw [hMd] at hM
 have hut := upd_tail (f := etyV) (k := 3) e3 (l := M) (i := L.length - 1) (n := 1) ⟨0, 0, 0⟩ hMl
 have hnews' : ∀ off, (j + 1 < cq → off = 0 + (j + 1) * 3) → L.length ≤ cq → ((flat etyV L).drop off).take ((L.length - (j + 1)) * 3) = news := fun off h hc => by
  by_cases hlt : j + 1 < cq
  ·rw [h hlt, Nat.zero_add]; exact hnews
  ·have : L.length - (j + 1) = 0 := by omega
   rw [this] at hnl ⊢
   rw [Nat.zero_mul] at hnl ⊢
   rw [List.eq_nil_of_length_eq_zero hnl]; rfl
 have hjn : j + (L.length - (j + 1)) = L.length - 1 := by omega
 repeat' (conv => whnf); first | (refine VSeq.is ?_; refine VSeq.isN 2 rfl ?_; refine VSeq.learn (at_ := 2) (fun w hw => vec_facts (hw (.vec (some ⟨gq, 0, none⟩) L.length cq 98 3 (flat etyV L)) (by simp))) (fun hfc => ?_); have hcq := hfc.1; clear hfc) | (refine VSl3.is ?_; refine VSl3.mk (by omega) (VSl.mk (by omega) (by omega) (by omega) fun q2 hq2 hq3 => ?_)) | (refine VSl.is ?_; refine VSl.is ?_; first | refine VSl.cut0 (m := j) (cap := cq) (by omega) ?_ | (refine VSl.off (l := j + 1) (h := L.length) (c := cq) (by omega) rfl rfl (by omega) (by omega) fun off hoff => ?_) | (refine VSl.off (l := L.length - 1) (h := L.length) (c := cq) (by omega) (by omega) rfl (by omega) (by omega) fun off hoff => ?_; have hoe := hoff (by omega); subst hoe; have hone1 : L.length - (L.length - 1) = 1 := (by omega); rw [hone1])) | (refine VAp.is ?_; refine VAp.is ?_; refine VAp.self aT rfl rfl (hnews' _ hoff hcq) hnl (by omega) hone ?_; rw [hM, hjn]) | (refine VCl.is ?_; refine VCl.is ?_; refine VCl.part (b := gq) rfl (by omega) ?_) | (refine VSt.is ?_; refine VSt.is ?_; refine VSt.cast (off' := (L.length - 1) * 3) (by first | omega | (dsimp only; omega) | rfl) (VSt.vec aT hut rfl ?_)) | (refine VSeq.go ?_) | (refine VB.is ?_; refine VB.no (by omega) fun _ => ?_) | (refine VHs.mk _ (.refl _) ?_)
 all_goals (conv => whnf)
 have hlX : (M.take (L.length - 1) ++ List.replicate 1 (⟨0, 0, 0⟩ : Ety)).length = L.length := by rw [List.length_append, List.length_take, List.length_replicate]; omega
 have htX : (M.take (L.length - 1) ++ List.replicate 1 (⟨0, 0, 0⟩ : Ety)).take (L.length - 1) = L.eraseIdx j := by
  rw [List.take_append_of_le_length (by rw [List.length_take]; omega), List.take_of_length_le (by rw [List.length_take]; omega), hMt]
 refine ⟨_, ?_, hK0⟩
 rw [← htX]
 exact HLe.shr (l := M.take (L.length - 1) ++ List.replicate 1 (⟨0, 0, 0⟩ : Ety)) aT (fun _ => rfl) hlX (by omega) (HLe.refl _)

def wantL (want : List Ety) (keys : List Int) : List Int := keys.map fun k => (findE want k).getD 0

theorem mSame_any (want t : List Ety) (hw : ∀ x ∈ want, EtyOk x) (ht : ∀ x ∈ t, EtyOk x) (htl : t.length ≤ 65536) (keys : List Int) (hk : ∀ k ∈ keys, 0 ≤ k ∧ k ≤ 65535) (hkl : keys.length ≤ 65536) (b3 b6 : Nat) (pk : Option Addr) (ck bk ok : Nat) (pw : Option Addr) (cw bw ow : Nat) (pt : Option Addr) (ct bt ot : Nat) (w : World)
  (h3 : Cells w b3 0 [.slice pk keys.length ck]) (h6 : Cells w b6 0 [.slice pw keys.length cw]) (hsk : Sl w intV 1 keys pk keys.length bk ok) (hsw : Sl w intV 1 (wantL want keys) pw keys.length bw ow) (hst : Sl w etyV 3 t pt t.length bt ot) :
  Calls Tryz.prog 123 #[.slice pt t.length ct, .pointer (some ⟨b3, 0, none⟩), .pointer (some ⟨b6, 0, none⟩)] w fun e w' => e = .returned (.bool (sameE want t keys)) ∧ St w [] [] w' := by
 have hf := fun k hk w' h => find_any t ht htl k hk pt ct bt ot w' h
 refine enter (C := Tryz.cx) (F := Tryz.fx123) (args := [_, _, _]) Tryz.func123 rfl rfl rfl Tryz.ok123 (St.start w []) ?_
 have s1 : sub [Value.slice pk keys.length ck] 0 1 = some [.slice pk keys.length ck] := rfl
 have s2 : sub [Value.slice pw keys.length cw] 0 1 = some [.slice pw keys.length cw] := rfl
 repeat' (conv => whnf); first | (refine VLd.is ?_; refine VLd.mk (Rd.cast (.old (h3.part s1) rfl (by simp)) (by first | omega | (dsimp only; omega) | rfl)) ?_) | (refine VSeq.go ?_)
 all_goals (conv => whnf)
 refine VLoop.mk (α := Nat) (fun j => j ≤ keys.length ∧ ∀ k ∈ keys.take j, findE want k = findE t k) (fun j => [(1000000, .tuple #[]), (0, .slice pt t.length ct), (2, .pointer (some ⟨b6, 0, none⟩)), (4, .bool false), (9, .slice pk keys.length ck), (10, .int .i64 (keys.length : Int)), (11, .int .i64 (j : Int))])
  (fun _ => []) (fun j => keys.length - j) 0 ⟨Nat.zero_le _, by simp⟩ aE aH ?_
 rintro j ⟨hj, hb⟩
 rcases Nat.lt_or_ge j keys.length with hlt | hge
 ·obtain ⟨k, hkj⟩ := hsk.get hlt
  have hkm := List.mem_of_getElem? hkj
  have hkr := hk k hkm
  have hwj : (wantL want keys)[j]? = some ((findE want k).getD 0) := by unfold wantL; rw [List.getElem?_map, hkj]; rfl
  have hf := fun w' h => hf k hkr w' h
  have hpos := findE_pos hw ht k
  obtain ⟨a, ha⟩ : ∃ a, (findE want k).getD 0 = a := ⟨_, rfl⟩
  obtain ⟨d, hd⟩ : ∃ d, (findE t k).getD 0 = d := ⟨_, rfl⟩
  rw [ha] at hwj
  rw [ha, hd] at hpos
  rw [hd] at hf
  repeat' (conv => whnf); first | (refine VIx.is ?_; refine VIx.mk (hsk.ptr (by omega)) (by omega) (by omega) ?_) | (refine VLd.is ?_; refine VLd.mk (Rd.cast (hsk.rd0 (by simp) (fun _ => rfl) hkj rfl) (by first | omega | (dsimp only; omega) | rfl)) ?_) | (refine VCall.isF 122 ?_; (refine VCall.valR (fun w' hw' => hf w' (hst.keep hw' (by simp))) ?_)) | (refine VLd.is ?_; refine VLd.mk (Rd.cast (.old (h6.part s2) rfl (by simp)) (by first | omega | (dsimp only; omega) | rfl)) ?_) | (refine VIx.is ?_; refine VIx.mk (hsw.ptr (by omega)) (by omega) (by omega) ?_) | (refine VLd.is ?_; refine VLd.mk (Rd.cast (hsw.rd0 (by simp) (fun _ => rfl) hwj rfl) (by first | omega | (dsimp only; omega) | rfl)) ?_) | (refine VSeq.go ?_) | (refine VB.is ?_; refine VB.yes (by omega) fun _ => ?_) | (refine VB.split (fun _ => ?_) (fun _ => ?_)) | (refine VAr.is ?_; refine oA ?_)
  all_goals (conv => whnf)
  ·have hne : sameE want t keys = false := by
    cases hs : sameE want t keys with
    | false => rfl
    | true =>
     unfold sameE at hs
     rw [List.all_eq_true] at hs
     have := hpos.2 (of_decide_eq_true (hs k hkm))
     omega
   rw [hne]
   exact ⟨fun w' hw' => ⟨rfl, hw'.le .nil⟩⟩
  ·refine VNext.mk (j + 1) ⟨by omega, fun q hq => ?_⟩ (by omega) aE aH
   rw [List.take_add_one, hkj] at hq
   rcases List.mem_append.1 hq with hq | hq
   ·exact hb q hq
   ·simp only [Option.toList_some, List.mem_singleton] at hq
    rw [hq]
    exact hpos.1 (by omega)
 have hjl : j = keys.length := by omega
 subst hjl
 rw [List.take_length] at hb
 have hall : sameE want t keys = true := by
  unfold sameE
  rw [List.all_eq_true]
  exact fun k hk => decide_eq_true (hb k hk)
 rw [hall]
 repeat' (conv => whnf); first | (refine VSeq.go ?_) | (refine VB.is ?_; refine VB.no (by omega) fun _ => ?_)
 all_goals (conv => whnf)
 exact ⟨fun w' hw' => ⟨rfl, hw'.le .nil⟩⟩

end Go.Proofs
end
