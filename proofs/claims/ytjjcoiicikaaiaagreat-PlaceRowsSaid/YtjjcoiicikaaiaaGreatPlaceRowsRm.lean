import Derived.Test.YtjjcoiicikaaiaaGreatPlaceRowsDm
set_option linter.unusedVariables false
set_option linter.unusedSimpArgs false
set_option maxHeartbeats 4000000

namespace Go.Vx

open Go

structure Vis (es : Array MapEntry) (seen : Array Nat) (vs : List MapEntry) : Prop where
 seen : seen.toList = vs.map (·.born)
 sub : ∀ y ∈ vs, y ∈ es.toList
 nodup : vs.Nodup

def leftV (es : Array MapEntry) (seen : Array Nat) : Nat := es.toList.countP fun x => decide (x.born ∉ seen)

theorem leftV_push {es : Array MapEntry} {seen : Array Nat} {x : MapEntry} (hx : x ∈ es.toList) (hn : x.born ∉ seen) : leftV es (seen.push x.born) < leftV es seen := by
 unfold leftV
 have key : ∀ l : List MapEntry, x ∈ l → l.countP (fun y => decide (y.born ∉ seen.push x.born)) < l.countP (fun y => decide (y.born ∉ seen)) := by
  intro l
  induction l with
  | nil => intro h; cases h
  | cons y l ih =>
   intro h
   have hle : ∀ l : List MapEntry, l.countP (fun y => decide (y.born ∉ seen.push x.born)) ≤ l.countP (fun y => decide (y.born ∉ seen)) := by
    intro l
    refine List.countP_mono_left fun z _ hz => ?_
    simp only [decide_eq_true_eq, Array.mem_push, not_or] at hz ⊢
    exact hz.1
   rw [List.countP_cons, List.countP_cons]
   by_cases e : y = x
   ·subst e
    have h1 := hle l
    have h2 : decide (y.born ∉ seen.push y.born) = false := by simp
    have h3 : decide (y.born ∉ seen) = true := decide_eq_true hn
    rw [h2, h3]
    simp only [Bool.false_eq_true, if_false, if_true]
    omega
   ·have h1 := ih ((List.mem_cons.1 h).resolve_left fun e2 => e e2.symm)
    by_cases h2 : y.born ∈ seen.push x.born
    ·have h3 : decide (y.born ∉ seen.push x.born) = false := decide_eq_false (fun h => h h2)
     rw [h3]
     simp only [Bool.false_eq_true, if_false]
     split <;> omega
    ·have h3 : y.born ∉ seen := fun h3 => h2 (Array.mem_push_of_mem _ h3)
     have h4 : decide (y.born ∉ seen.push x.born) = true := decide_eq_true h2
     have h5 : decide (y.born ∉ seen) = true := decide_eq_true h3
     rw [h4, h5]
     simp only [if_true]
     omega
 exact key _ hx

theorem Vis.nil (es : Array MapEntry) : Vis es #[] [] := ⟨rfl, by simp, List.nodup_nil⟩

theorem born_inj {es : Array MapEntry} {clock : Nat} (hst : MapKept.Stamped es clock) {x y : MapEntry} (hx : x ∈ es.toList) (hy : y ∈ es.toList) (h : x.born = y.born) : x = y := by
 obtain ⟨i, hi⟩ := List.getElem?_of_mem hx
 obtain ⟨j, hj⟩ := List.getElem?_of_mem hy
 have e1 : (es.toList.map (·.born))[i]? = some x.born := by rw [List.getElem?_map, hi]; rfl
 have e2 : (es.toList.map (·.born))[j]? = some x.born := by rw [List.getElem?_map, hj, h]; rfl
 have e3 := (List.getElem?_inj (List.getElem?_eq_some_iff.1 e1).1 hst.2.1).1 (e1.trans e2.symm)
 subst e3
 rw [hi] at hj
 exact Option.some.inj hj

theorem born_find {es : Array MapEntry} {clock : Nat} (hst : MapKept.Stamped es clock) {x : MapEntry} (hx : x ∈ es.toList) : es.find? (fun e => e.born == x.born) = some x := by
 rw [← Array.find?_toList]
 cases h : es.toList.find? (fun e => e.born == x.born) with
 | none =>
  have := List.find?_eq_none.1 h x hx
  simp at this
 | some y =>
  have h1 := List.mem_of_find?_eq_some h
  have h2 := List.find?_some h
  simp only [beq_iff_eq] at h2
  rw [born_inj hst h1 hx h2]

theorem Vis.next {es : Array MapEntry} {seen : Array Nat} {vs : List MapEntry} (h : Vis es seen vs) {x : MapEntry} (hx : x ∈ es.toList) (hn : x.born ∉ seen) : Vis es (seen.push x.born) (vs ++ [x]) := by
 refine ⟨by rw [Array.toList_push, h.seen, List.map_append]; rfl, fun y hy => ?_, ?_⟩
 ·rcases List.mem_append.1 hy with hy | hy
  ·exact h.sub y hy
  ·rw [List.mem_singleton] at hy; subst hy; exact hx
 ·rw [List.nodup_append]
  refine ⟨h.nodup, by simp, fun a ha b hb e => ?_⟩
  rw [List.mem_singleton] at hb
  subst hb; subst e
  refine hn ?_
  rw [← Array.mem_toList_iff, h.seen]
  exact List.mem_map_of_mem ha

theorem Vis.done {es : Array MapEntry} {clock : Nat} (hst : MapKept.Stamped es clock) {seen : Array Nat} {vs : List MapEntry} (h : Vis es seen vs) (hall : ∀ x ∈ es.toList, x.born ∈ seen) : vs.Perm es.toList := by
 have hnd : es.toList.Nodup := by
  have := hst.2.1
  rw [List.Nodup, List.pairwise_map] at this
  exact this.imp fun h1 e => h1 (by rw [e])
 refine (List.perm_ext_iff_of_nodup h.nodup hnd).2 fun y => ⟨h.sub y, fun hy => ?_⟩
 have := hall y hy
 rw [← Array.mem_toList_iff, h.seen, List.mem_map] at this
 obtain ⟨z, hz, he⟩ := this
 rw [born_inj hst (h.sub z hz) hy he] at hz
 exact hz

theorem nodup_len {α : Type} [DecidableEq α] : ∀ {l m : List α}, l.Nodup → (∀ x ∈ l, x ∈ m) → l.length ≤ m.length
 | [], _, _, _ => Nat.zero_le _
 | x :: l, m, h, hs => by
  rw [List.nodup_cons] at h
  have hx := hs x List.mem_cons_self
  have h1 := nodup_len (l := l) (m := m.erase x) h.2 fun y hy => (List.mem_erase_of_ne fun e => h.1 (by rw [← e]; exact hy)).2 (hs y (List.mem_cons_of_mem _ hy))
  rw [List.length_erase_of_mem hx] at h1
  have := List.length_pos_of_mem hx
  rw [List.length_cons]; omega

theorem Vis.len {es : Array MapEntry} {clock : Nat} (hst : MapKept.Stamped es clock) {seen : Array Nat} {vs : List MapEntry} (h : Vis es seen vs) : vs.length ≤ es.size := by
 have h1 : (vs.map (·.born)).Nodup := by
  rw [List.Nodup, List.pairwise_map]
  exact h.nodup.imp_of_mem fun ha hb hne e => hne (born_inj hst (h.sub _ ha) (h.sub _ hb) e)
 have h2 := nodup_len (m := es.toList.map (·.born)) h1 fun x hx => by
  obtain ⟨y, hy, rfl⟩ := List.mem_map.1 hx
  exact List.mem_map_of_mem (h.sub y hy)
 rw [List.length_map, List.length_map] at h2
 simpa using h2

theorem HLe.mapBack {H H' r : HP} {u : Ent → HP} {b clock : Nat} {es : Array MapEntry} {m : List (Int × Value)} (h : At H (.obj b (.map es clock)) u r) (hes : es.toList.map (fun x => (x.key, x.val)) = m.map (fun x => (Value.int .i64 x.1, x.2))) (hst : MapKept.Stamped es clock) (hr : HLe H' r) : HLe (.map b m :: H') H :=
 HLe.weak h hr (fun w hw => ⟨es, clock, hw, hes, hst⟩) rfl

theorem vis_pick {α : Type} {f : α → Int × Value} {es : Array MapEntry} {l : List α} (hes : es.toList.map (fun x => (x.key, x.val)) = (l.map f).map (fun x => (Value.int .i64 x.1, x.2))) {x : MapEntry} (hx : x ∈ es.toList) :
  ∃ d ∈ l, x.key = .int .i64 (f d).1 ∧ x.val = (f d).2 := by
 have h1 : (x.key, x.val) ∈ es.toList.map (fun x => (x.key, x.val)) := List.mem_map_of_mem (f := fun x : MapEntry => (x.key, x.val)) hx
 rw [hes, List.map_map] at h1
 obtain ⟨d, hd, he⟩ := List.mem_map.1 h1
 simp only [Function.comp_apply, Prod.mk.injEq] at he
 exact ⟨d, hd, he.1.symm, he.2.symm⟩

def keyI : Value → Int
 | .int _ n => n
 | _ => 0

theorem vis_keys {α : Type} {f : α → Int × Value} {es : Array MapEntry} {l : List α} (hes : es.toList.map (fun x => (x.key, x.val)) = (l.map f).map (fun x => (Value.int .i64 x.1, x.2))) {vs : List MapEntry} (h : vs.Perm es.toList) : (vs.map fun x => keyI x.key).Perm (l.map fun d => (f d).1) := by
 have h1 : (vs.map fun x => keyI x.key).Perm (es.toList.map fun x => keyI x.key) := h.map _
 have h2 : es.toList.map (fun x => keyI x.key) = l.map fun d => (f d).1 := by
  have := congrArg (fun L => L.map fun p : Value × Value => keyI p.1) hes
  simp only [List.map_map] at this
  exact this
 rw [h2] at h1
 exact h1

theorem mfind_absent {m : List (Int × Value)} {j : Int} (h : ∀ p ∈ m, p.1 ≠ j) : mfind m j = none ∧ ∀ v, mset m j v = m ++ [(j, v)] := by
 induction m with
 | nil => exact ⟨rfl, fun _ => rfl⟩
 | cons p r ih =>
  obtain ⟨h1, h2⟩ := ih fun q hq => h q (List.mem_cons_of_mem _ hq)
  have hp := h p List.mem_cons_self
  obtain ⟨a, v0⟩ := p
  constructor
  ·simp only [mfind]
   rw [if_neg hp]; exact h1
  ·intro v
   simp only [mset]
   rw [if_neg hp, h2]; rfl

end Go.Vx
