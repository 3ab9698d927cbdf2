import Derived.Test.YtephkjicokbckaaGreatDoorVerifyRobustsCl
set_option linter.unusedVariables false

set_option linter.unusedSimpArgs false

namespace Go.Gm

def inC (c : Clm) (x : Evt) : Prop := c.frm ≤ x.tick ∧ x.tick < c.to ∧ x.id ∈ c.ns

instance (c : Clm) (x : Evt) : Decidable (inC c x) := by unfold inC; infer_instance

def aboutL (c : Clm) (l : List Evt) : List Evt := l.filter fun x => decide (inC c x)

theorem mem_aboutL {c : Clm} {l : List Evt} {x : Evt} : x ∈ aboutL c l ↔ x ∈ l ∧ inC c x := by
  unfold aboutL
  rw [List.mem_filter, decide_eq_true_eq]

def LeadsP (c : Clm) (l : List Evt) : Prop := ∃ x ∈ aboutL c l, ∀ y ∈ aboutL c l, x.tick ≤ y.tick ∧ (y.tick = x.tick → c.ns[0]? = some y.id)

def CountsP (c : Clm) (l : List Evt) : Prop := c.lo ≤ ((aboutL c l).length : Int) ∧ ((aboutL c l).length : Int) ≤ c.hi

def HoldsP (c : Clm) (l : List Evt) : Prop := if c.kind = 1 then LeadsP c l else CountsP c l

def hitC (c : Clm) (n : Int) (x : Evt) : Prop := x.id = n ∧ c.frm ≤ x.tick ∧ x.tick < c.to

instance (c : Clm) (n : Int) (x : Evt) : Decidable (hitC c n x) := by unfold hitC; infer_instance

def fst1 (c : Clm) (n : Int) (a : Int) (x : Evt) : Int := if hitC c n x then min a x.tick else a

def fstC (c : Clm) (l : List Evt) (n : Int) : Int := l.foldl (fst1 c n) c.to

theorem fst1_le (c : Clm) (n a : Int) (x : Evt) : fst1 c n a x ≤ a := by unfold fst1; split <;> omega

theorem fstF_le (c : Clm) (n : Int) : ∀ (l : List Evt) (a : Int), l.foldl (fst1 c n) a ≤ a ∧ (∀ x ∈ l, hitC c n x → l.foldl (fst1 c n) a ≤ x.tick) ∧ (l.foldl (fst1 c n) a = a ∨ ∃ x ∈ l, hitC c n x ∧ x.tick = l.foldl (fst1 c n) a)
  | [], a => ⟨Int.le_refl _, by simp, .inl rfl⟩
  | y :: l, a => by
    obtain ⟨h1, h2, h3⟩ := fstF_le c n l (fst1 c n a y)
    have h4 := fst1_le c n a y
    rw [List.foldl_cons]
    refine ⟨by omega, fun x hx hh => ?_, ?_⟩
    · rcases List.mem_cons.1 hx with rfl | hx
      · have : fst1 c n a x ≤ x.tick := by unfold fst1; rw [if_pos hh]; omega
        omega
      · exact h2 x hx hh
    · rcases h3 with h3 | ⟨x, hx, hh, ht⟩
      · rw [h3]
        unfold fst1
        by_cases hh : hitC c n y
        · rw [if_pos hh]
          by_cases hm : a ≤ y.tick
          · exact .inl (by omega)
          · exact .inr ⟨y, List.mem_cons_self, hh, by omega⟩
        · rw [if_neg hh]
          exact .inl rfl
      · exact .inr ⟨x, List.mem_cons_of_mem _ hx, hh, ht⟩

theorem fstC_take {c : Clm} {l : List Evt} {k : Nat} {x : Evt} (h : l[k]? = some x) (n : Int) : fstC c (l.take (k + 1)) n = fst1 c n (fstC c (l.take k) n) x := by
  unfold fstC
  rw [List.take_add_one, h, Option.toList_some, List.foldl_append]
  rfl

def cntHit (c : Clm) (x : Evt) (ns : List Int) : Nat := ns.countP fun n => decide (hitC c n x)

def cntH (c : Clm) (l : List Evt) : Nat := (l.map fun x => cntHit c x c.ns).sum

theorem cntH_take {c : Clm} {l : List Evt} {k : Nat} {x : Evt} (h : l[k]? = some x) : cntH c (l.take (k + 1)) = cntH c (l.take k) + cntHit c x c.ns := by
  unfold cntH
  rw [List.take_add_one, h, Option.toList_some, List.map_append, List.sum_append]
  simp

theorem cntHit_take {c : Clm} {x : Evt} {ns : List Int} {k : Nat} {n : Int} (h : ns[k]? = some n) : cntHit c x (ns.take (k + 1)) = cntHit c x (ns.take k) + if hitC c n x then 1 else 0 := by
  unfold cntHit
  rw [List.take_add_one, h, Option.toList_some, List.countP_append]
  simp [List.countP_cons]

theorem cntHit_le (c : Clm) (x : Evt) (ns : List Int) : cntHit c x ns ≤ ns.length := List.countP_le_length

theorem cntHit_one {c : Clm} {x : Evt} : ∀ {ns : List Int}, ns.Nodup → cntHit c x ns = if c.frm ≤ x.tick ∧ x.tick < c.to ∧ x.id ∈ ns then 1 else 0
  | [], _ => by simp [cntHit]
  | n :: ns, h => by
    obtain ⟨h1, h2⟩ := List.nodup_cons.1 h
    have ih := cntHit_one (c := c) (x := x) h2
    have e : cntHit c x (n :: ns) = cntHit c x ns + if hitC c n x then 1 else 0 := by
      unfold cntHit
      rw [List.countP_cons]
      simp
    rw [e, ih]
    by_cases hn : x.id = n
    · by_cases hr : c.frm ≤ x.tick ∧ x.tick < c.to
      · have hh : hitC c n x := ⟨hn, hr⟩
        rw [if_neg (fun h => h1 (hn ▸ h.2.2)), if_pos hh, if_pos ⟨hr.1, hr.2, by rw [hn]; exact List.mem_cons_self⟩]
      · have hh : ¬ hitC c n x := fun h => hr h.2
        rw [if_neg (fun h => hr ⟨h.1, h.2.1⟩), if_neg hh, if_neg (fun h => hr ⟨h.1, h.2.1⟩)]
    · have hh : ¬ hitC c n x := fun h => hn h.1
      rw [if_neg hh, Nat.add_zero]
      congr 1
      simp [hn]

theorem cntH_about {c : Clm} (h : c.ns.Nodup) : ∀ l : List Evt, cntH c l = (aboutL c l).length
  | [] => rfl
  | x :: l => by
    have ih := cntH_about h l
    have e : cntH c (x :: l) = cntHit c x c.ns + cntH c l := by
      unfold cntH
      rw [List.map_cons, List.sum_cons]
    rw [e, ih, cntHit_one h]
    unfold aboutL
    by_cases hi : inC c x
    · have hi' : c.frm ≤ x.tick ∧ x.tick < c.to ∧ x.id ∈ c.ns := hi
      rw [if_pos hi', List.filter_cons_of_pos (p := fun x => decide (inC c x)) (decide_eq_true hi), List.length_cons]; omega
    · have hi' : ¬ (c.frm ≤ x.tick ∧ x.tick < c.to ∧ x.id ∈ c.ns) := hi
      rw [if_neg hi', List.filter_cons_of_neg (p := fun x => decide (inC c x)) (by rw [decide_eq_true_eq]; exact hi)]; omega

theorem cntH_le (c : Clm) : ∀ l : List Evt, cntH c l ≤ l.length * c.ns.length
  | [] => by simp [cntH]
  | x :: l => by
    have ih := cntH_le c l
    have h1 := cntHit_le c x c.ns
    have e : cntH c (x :: l) = cntHit c x c.ns + cntH c l := by
      unfold cntH
      rw [List.map_cons, List.sum_cons]
    rw [e, List.length_cons, Nat.add_mul]
    omega

theorem inC_hit {c : Clm} {x : Evt} : inC c x ↔ x.id ∈ c.ns ∧ hitC c x.id x := by
  unfold inC hitC
  constructor
  · exact fun h => ⟨h.2.2, rfl, h.1, h.2.1⟩
  · exact fun h => ⟨h.2.2.1, h.2.2.2, h.1⟩

theorem leads_ref {c : Clm} {one : Int} (hn : c.ns.Nodup) (h0 : c.ns[0]? = some one) (l : List Evt) :
    LeadsP c l ↔ fstC c l one < c.to ∧ ∀ (i : Nat) n, 1 ≤ i → c.ns[i]? = some n → fstC c l one < fstC c l n := by
  have hone := List.mem_of_getElem? h0
  constructor
  · rintro ⟨x, hx, hall⟩
    obtain ⟨hxl, hxi⟩ := mem_aboutL.1 hx
    have hxo : x.id = one := by
      have := (hall x hx).2 rfl
      rw [h0, Option.some.injEq] at this
      exact this.symm
    obtain ⟨_, hh⟩ := inC_hit.1 hxi
    rw [hxo] at hh
    obtain ⟨g1, g2, g3⟩ := fstF_le c one l c.to
    have hle : fstC c l one ≤ x.tick := g2 x hxl hh
    refine ⟨by have := hxi.2.1; omega, fun i n hi hin => ?_⟩
    obtain ⟨k1, k2, k3⟩ := fstF_le c n l c.to
    have hxt := hxi.2.1
    rcases k3 with k3 | ⟨y, hy, hyh, hyt⟩
    · show _ < l.foldl (fst1 c n) c.to
      rw [k3]; omega
    · have hya : y ∈ aboutL c l := mem_aboutL.2 ⟨hy, inC_hit.2 ⟨by rw [hyh.1]; exact List.mem_of_getElem? hin, by rw [hyh.1]; exact hyh⟩⟩
      have h1 := hall y hya
      show fstC c l one < l.foldl (fst1 c n) c.to
      rw [← hyt]
      by_cases e : y.tick = x.tick
      · have h2 := h1.2 e
        rw [h0, Option.some.injEq, hyh.1] at h2
        subst h2
        have := (List.getElem?_inj (by exact (List.getElem?_eq_some_iff.1 h0).1) hn).1 (h0.trans hin.symm)
        omega
      · omega
  · rintro ⟨h1, h2⟩
    obtain ⟨g1, g2, g3⟩ := fstF_le c one l c.to
    rcases g3 with g3 | ⟨x, hx, hh, ht⟩
    · have : fstC c l one = c.to := g3
      omega
    · have hxt : x.tick = fstC c l one := ht
      refine ⟨x, mem_aboutL.2 ⟨hx, inC_hit.2 ⟨by rw [hh.1]; exact hone, by rw [hh.1]; exact hh⟩⟩, fun y hy => ?_⟩
      obtain ⟨hyl, hyi⟩ := mem_aboutL.1 hy
      obtain ⟨hyn, hyh⟩ := inC_hit.1 hyi
      obtain ⟨i, hi⟩ := List.getElem?_of_mem hyn
      obtain ⟨k1, k2, k3⟩ := fstF_le c y.id l c.to
      have h3 : fstC c l y.id ≤ y.tick := k2 y hyl hyh
      by_cases h00 : i = 0
      · subst h00
        rw [h0, Option.some.injEq] at hi
        rw [← hi] at h3
        exact ⟨by omega, fun _ => by rw [h0, hi]⟩
      · have := h2 i y.id (by omega) hi
        exact ⟨by omega, fun e => by omega⟩

theorem mapsplit_get {α β : Type} {f g : α → β} {ns : List α} {i : Nat} {n : α} (h : ns[i]? = some n) : ((ns.take i).map f ++ (ns.drop i).map g)[i]? = some (g n) := by
  have hlt := (List.getElem?_eq_some_iff.1 h).1
  rw [List.getElem?_append_right (by rw [List.length_map, List.length_take]; omega), List.length_map, List.length_take, List.getElem?_map, List.getElem?_drop, show i + (i - min i ns.length) = i by omega, h]
  rfl

theorem mapsplit_set {α β : Type} {f g : α → β} {ns : List α} {i : Nat} {n : α} (h : ns[i]? = some n) : ((ns.take i).map f ++ (ns.drop i).map g).set i (f n) = (ns.take (i + 1)).map f ++ (ns.drop (i + 1)).map g := by
  obtain ⟨hlt, he⟩ := List.getElem?_eq_some_iff.1 h
  have hl : ((ns.take i).map f).length = i := by rw [List.length_map, List.length_take]; omega
  rw [List.set_append_right _ _ (by omega), hl, Nat.sub_self, List.drop_eq_getElem_cons hlt, he, List.map_cons, List.set_cons_zero, List.take_add_one, h, Option.toList_some, List.map_append, List.append_assoc]
  rfl

theorem mapsplit_same {α β : Type} {f g : α → β} {ns : List α} {i : Nat} {n : α} (h : ns[i]? = some n) (e : f n = g n) : (ns.take i).map f ++ (ns.drop i).map g = (ns.take (i + 1)).map f ++ (ns.drop (i + 1)).map g := by
  have h1 := mapsplit_set (f := f) (g := g) h
  rw [← h1, e]
  have h2 := mapsplit_get (f := f) (g := g) h
  obtain ⟨hlt, he⟩ := List.getElem?_eq_some_iff.1 h2
  rw [← he, List.set_getElem_self]

theorem mapsplit_len {α β : Type} (f g : α → β) (ns : List α) (i : Nat) : ((ns.take i).map f ++ (ns.drop i).map g).length = ns.length := by
  rw [List.length_append, List.length_map, List.length_map, ← List.length_append, List.take_append_drop]

end Go.Gm
