/- Seg: runs of entries within the symbolic heap. -/
import Derived.Test.YtbnipfgbfnhibaaFlat
set_option linter.unusedVariables false
namespace Go.Vx
open Go Go.RowKit

theorem At.app {H : HP} {x : Ent} {u : Ent → HP} {r : HP} (A : HP) (h : At H x u r) : At (A ++ H) x (fun y => A ++ u y) (A ++ r) := by
  induction A with
  | nil => exact h
  | cons a A ih => exact .there ih

/-- The run S stands in H; Z S' is H with S' in its place. -/
inductive AtS : HP → HP → (HP → HP) → Prop
  | here {S R : HP} : AtS (S ++ R) S (fun S' => S' ++ R)
  | last {S : HP} : AtS S S (fun S' => S')
  | there {H S : HP} {Z : HP → HP} {z : Ent} (h : AtS H S Z) : AtS (z :: H) S (fun S' => z :: Z S')
  | app {H S : HP} {Z : HP → HP} {A : HP} (h : AtS H S Z) : AtS (A ++ H) S (fun S' => A ++ Z S')

theorem At.app2 {H : HP} {x : Ent} {u : Ent → HP} {r : HP} (A : HP) (h : At H x u r) : At (List.append A H) x (fun y => List.append A (u y)) (List.append A r) := At.app A h
theorem AtS.here2 {S R : HP} : AtS (List.append S R) S (fun S' => List.append S' R) := .here
theorem AtS.app2 {H S : HP} {Z : HP → HP} {A : HP} (h : AtS H S Z) : AtS (List.append A H) S (fun S' => List.append A (Z S')) := .app h

theorem AtS.perm {H S : HP} {Z : HP → HP} (h : AtS H S Z) : H.Perm (S ++ Z []) := by
  induction h with
  | here => exact .refl _
  | last => simp
  | @there H S Z z _ ih => exact (ih.cons z).trans (List.perm_middle.symm)
  | @app H S Z A _ ih =>
    refine (ih.append_left A).trans ?_
    rw [← List.append_assoc, ← List.append_assoc]
    exact List.perm_append_comm.append_right _

theorem AtS.permZ {H S : HP} {Z : HP → HP} (h : AtS H S Z) (S' : HP) : (Z S').Perm (S' ++ Z []) := by
  induction h with
  | here => exact .refl _
  | last => simp
  | @there H S Z z _ ih => exact (ih.cons z).trans (List.perm_middle.symm)
  | @app H S Z A _ ih =>
    refine (ih.append_left A).trans ?_
    rw [← List.append_assoc, ← List.append_assoc]
    exact List.perm_append_comm.append_right _

theorem HLe.of_at {H : HP} {x : Ent} {u : Ent → HP} {r H' : HP} (h : At H x u r) (hr : HLe H' r) : HLe (x :: H') H := HLe.cons h hr

theorem at_mem {H : HP} {x : Ent} (h : x ∈ H) : ∃ u r, At H x u r := by
  induction H with
  | nil => simp at h
  | cons z H ih =>
    rcases List.mem_cons.1 h with rfl | h
    · exact ⟨_, _, .here⟩
    · obtain ⟨u, r, h⟩ := ih h; exact ⟨_, _, .there h⟩

theorem HLe.of_perm {A B C : HP} (hp : B.Perm (A ++ C)) : HLe A B := HLe.of_sub C hp

theorem HLe.last {H S : HP} {Z : HP → HP} (h : AtS H S Z) : HLe S H := HLe.of_perm h.perm

theorem HLe.seg {H S R : HP} {Z : HP → HP} (h : AtS H S Z) (hr : HLe R (Z [])) : HLe (S ++ R) H := (hr.left S).perm h.perm.symm

/-- One of a run of like entries. -/
theorem At.run {α : Type} {l : List α} {f : α → Ent} {i : Nat} {x : α} (hx : l[i]? = some x) (R : HP) :
    ∃ u r, At (l.map f ++ R) (f x) u r ∧ (∀ y, u (f y) = (l.set i y).map f ++ R) ∧ r = (l.eraseIdx i).map f ++ R := by
  induction l generalizing i with
  | nil => simp at hx
  | cons z l ih =>
    cases i with
    | zero =>
      simp only [List.getElem?_cons_zero, Option.some.injEq] at hx
      subst hx
      exact ⟨_, _, .here, fun y => rfl, rfl⟩
    | succ i =>
      simp only [List.getElem?_cons_succ] at hx
      obtain ⟨u, r, h1, h2, h3⟩ := ih hx
      exact ⟨_, _, .there h1, fun y => by simp [h2], by simp [h3]⟩

theorem AtS.one {α : Type} {H : HP} {l : List α} {f : α → Ent} {Z : HP → HP} {i : Nat} {x : α} (h : AtS H (l.map f) Z) (hx : l[i]? = some x) :
    ∃ u r, At H (f x) u r ∧ (∀ y, (u (f y)) = Z ((l.set i y).map f)) ∧ r = Z ((l.eraseIdx i).map f) := by
  obtain ⟨S, hS⟩ : ∃ S, S = l.map f := ⟨_, rfl⟩
  rw [← hS] at h
  induction h with
  | @here S R => subst hS; exact At.run hx R
  | @last S =>
    subst hS
    have := At.run (f := f) hx []
    simpa using this
  | there _ ih => obtain ⟨u, r, h1, h2, h3⟩ := ih hS; exact ⟨_, _, .there h1, fun y => by simp [h2], by simp [h3]⟩
  | @app H S Z A _ ih => obtain ⟨u, r, h1, h2, h3⟩ := ih hS; exact ⟨_, _, .app A h1, fun y => by simp [h2], by simp [h3]⟩

/-- Reading from one of a run of slices. -/
theorem Rd.seg {α : Type} {w0 : World} {M : List Nat} {H : HP} {l : List α} {f : α → Ent} {Z : HP → HP} {i : Nat} {x : α} {b off s n cap e size : Nat} {xs vs : List Value} (h : AtS H (l.map f) Z) (hx : l[i]? = some x)
    (hf : f x = .vec (some ⟨b, 0, none⟩) n cap e size xs) (hs : sub xs off s = some vs) : Rd w0 M H b off s vs := by
  obtain ⟨u, r, h1, _, _⟩ := h.one hx
  rw [hf] at h1
  exact .vec h1 hs

/-- Writing to one of a run of slices. -/
theorem VSt.seg {α : Type} {H : HP} {l : List α} {f : α → Ent} {Z : HP → HP} {i : Nat} {x y : α} {b off n cap e size : Nat} {xs xs' vs : List Value} {k : HP → Prop} (h : AtS H (l.map f) Z) (hx : l[i]? = some x)
    (hf : f x = .vec (some ⟨b, 0, none⟩) n cap e size xs) (hu : upd xs off vs = some xs') (hy : f y = .vec (some ⟨b, 0, none⟩) n cap e size xs') (h1 : oneAll vs = true) (hk : k (Z ((l.set i y).map f))) : VSt H b off vs k := by
  obtain ⟨u, r, hat, hz, _⟩ := h.one hx
  rw [hf] at hat
  rw [← hz, hy] at hk
  exact .vec hat hu h1 hk

/-- Appending to one of a run of slices: it leaves the run. -/
theorem VAp.seg {α : Type} {w0 : World} {M : List Nat} {H : HP} {l : List α} {f : α → Ent} {Z : HP → HP} {i : Nat} {x : α} {p : Option Addr} {n cap e size bytes m : Nat} {q : Option Addr} {xs news : List Value} {K : Value → HP → Prop} (h : AtS H (l.map f) Z) (hx : l[i]? = some x)
    (hf : f x = .vec p n cap e size xs) (hs : Src w0 M H q m size news) (h1 : ∀ v ∈ news, v.oneCell' = true) (hb : (n + m) * bytes ≤ 140737488355328) (h63 : n + m ≤ maxLen)
    (hk : ∀ p' cap', (0 < n + m → ∃ b, p' = some ⟨b, 0, none⟩) → K (.slice p' (n + m) cap') (.vec p' (n + m) cap' e size (xs ++ news) :: Z ((l.eraseIdx i).map f))) : VAp w0 M H p n cap e size bytes q m K := by
  obtain ⟨u, r, hat, _, hr⟩ := h.one hx
  rw [hf] at hat
  subst hr
  exact .own hat hs h1 hb h63 hk

/-- Clearing one of a run of slices. -/
theorem VCl.seg {α : Type} {H : HP} {l : List α} {f : α → Ent} {Z : HP → HP} {i : Nat} {x y : α} {p : Option Addr} {n cap e size : Nat} {xs zs : List Value} {K : Value → HP → Prop} (h : AtS H (l.map f) Z) (hx : l[i]? = some x)
    (hf : f x = .vec p n cap e size xs) (hy : f y = .vec p n cap e size (repL zs n)) (hk : K (.tuple #[]) (Z ((l.set i y).map f))) : VCl H p n cap e size zs K := by
  obtain ⟨u, r, hat, hz, _⟩ := h.one hx
  rw [hf] at hat
  rw [← hz, hy] at hk
  exact .own hat hk

/-- A callee that turns a run of ours. -/
theorem St.part {w0 w : World} {M : List Nat} {H S : HP} {Z : HP → HP} (hs : St w0 M H w) (h : AtS H S Z) : St w (ids S) S w := by
  have hp := hs.perm h.perm
  refine ⟨rfl, rfl, rfl, Nat.le_refl _, fun _ _ _ => rfl, fun x hx => hp.own x (List.mem_append_left _ hx), fun b hb => .inl hb, ?_⟩
  have := hp.nodup
  rw [ids, List.filterMap_append] at this
  exact (List.nodup_append.1 this).1

theorem St.back {w0 w w' : World} {M : List Nat} {H S S' : HP} {Z : HP → HP} (hs : St w0 M H w) (h : AtS H S Z) (h1 : St w (ids S) S' w') : St w0 M (Z S') w' := by
  have hp := hs.perm h.perm
  have hn := hp.nodup
  rw [ids, List.filterMap_append] at hn
  refine (hp.call (H2 := Z []) h1 (HLe.of_perm (C := S) List.perm_append_comm) (fun b hb => hp.from_ b (by rw [ids, List.filterMap_append]; exact List.mem_append_left _ hb)) (fun b hb hb' => ?_)).perm (h.permZ S').symm
  exact (List.nodup_append.1 hn).2.2 b hb' b hb rfl

theorem VCall.turnS {P : Program} {w0 : World} {M : List Nat} {H S : HP} {Z : HP → HP} {f : Nat} {args : List Value} {α : Type} {v : α → Value} {p : α → Prop} {G : α → HP} {K : Value → HP → Prop}
    (hat : AtS H S Z) (hc : ∀ w, St w (ids S) S w → Calls P f args.toArray w fun e w' => ∃ x : α, e = .returned (v x) ∧ p x ∧ St w (ids S) (G x) w') (hk : ∀ x, p x → K (v x) (Z (G x))) : VCall P w0 M H f args K :=
  .mk fun w hw => (hc w (hw.part hat)).mono fun e w' ⟨x, he, hb, h'⟩ => ⟨v x, Z (G x), he, hw.back hat h', hk x hb⟩

/-- The same, where the callee reads besides what lies elsewhere. -/
theorem VCall.turnR {P : Program} {w0 : World} {M : List Nat} {H S : HP} {Z : HP → HP} {f : Nat} {args : List Value} {α : Type} {v : α → Value} {p : α → Prop} {G : α → HP} {K : Value → HP → Prop}
    (hat : AtS H S Z) (hc : ∀ w, St w0 M H w → St w (ids S) S w → Calls P f args.toArray w fun e w' => ∃ x : α, e = .returned (v x) ∧ p x ∧ St w (ids S) (G x) w') (hk : ∀ x, p x → K (v x) (Z (G x))) : VCall P w0 M H f args K :=
  .mk fun w hw => (hc w hw (hw.part hat)).mono fun e w' ⟨x, he, hb, h'⟩ => ⟨v x, Z (G x), he, hw.back hat h', hk x hb⟩

/-- A callee that makes memory, and reads what is known. -/
theorem VCall.genR {P : Program} {w0 : World} {M : List Nat} {H : HP} {f : Nat} {args : List Value} {α : Type} {v : α → Value} {p : α → Prop} {G : α → HP} {K : Value → HP → Prop}
    (hc : ∀ w, St w0 M H w → Calls P f args.toArray w fun e w' => ∃ x : α, e = .returned (v x) ∧ p x ∧ St w [] (G x) w') (hk : ∀ x, p x → K (v x) (G x ++ H)) : VCall P w0 M H f args K :=
  .mk fun w hw => (hc w hw).mono fun e w' ⟨x, he, hb, h'⟩ => ⟨v x, G x ++ H, he, hw.call_fresh h', hk x hb⟩

theorem VCall.valR {P : Program} {w0 : World} {M : List Nat} {H : HP} {f : Nat} {args : List Value} {v : Value} {K : Value → HP → Prop}
    (hc : ∀ w, St w0 M H w → Calls P f args.toArray w fun e w' => e = .returned v ∧ St w [] [] w') (hk : K v H) : VCall P w0 M H f args K :=
  .mk fun w hw => (hc w hw).mono fun e w' ⟨he, h'⟩ => ⟨v, H, he, hw.call_fresh h', hk⟩

/-! ### Which form a goal has -/
theorem VLd.is {w0 : World} {M : List Nat} {H : HP} {b off s : Nat} {k : List Value → Prop} (hh : VLd w0 M H b off s k) : VLd w0 M H b off s k := hh
theorem VLk.is {m : List (Int × Value)} {j : Int} {k : Option Value → Prop} (hh : VLk m j k) : VLk m j k := hh
theorem VMp.is {w0 : World} {M : List Nat} {H : HP} {b : Nat} {k : List (Int × Value) → Prop} (hh : VMp w0 M H b k) : VMp w0 M H b k := hh
theorem VNew.is {k : Nat → Prop} (hh : VNew k) : VNew k := hh
theorem VMk.is {bytes : Nat} {l c : Int} {k : Nat → Prop} (hh : VMk bytes l c k) : VMk bytes l c k := hh
theorem VSt.is {H : HP} {b off : Nat} {vs : List Value} {k : HP → Prop} (hh : VSt H b off vs k) : VSt H b off vs k := hh
theorem VMpU.is {H : HP} {b : Nat} {k : List (Int × Value) → (Ent → HP) → Prop} (hh : VMpU H b k) : VMpU H b k := hh
theorem VAp.is {w0 : World} {M : List Nat} {H : HP} {p : Option Addr} {n cap e size bytes : Nat} {q : Option Addr} {m : Nat} {K : Value → HP → Prop} (hh : VAp w0 M H p n cap e size bytes q m K) : VAp w0 M H p n cap e size bytes q m K := hh
theorem VCp.is {w0 : World} {M : List Nat} {H : HP} {p : Option Addr} {n cap e size : Nat} {q : Option Addr} {m : Nat} {K : Value → HP → Prop} (hh : VCp w0 M H p n cap e size q m K) : VCp w0 M H p n cap e size q m K := hh
theorem VCl.is {H : HP} {p : Option Addr} {n cap e size : Nat} {zs : List Value} {K : Value → HP → Prop} (hh : VCl H p n cap e size zs K) : VCl H p n cap e size zs K := hh
theorem VCall.is {P : Program} {w0 : World} {M : List Nat} {H : HP} {f : Nat} {args : List Value} {K : Value → HP → Prop} (hh : VCall P w0 M H f args K) : VCall P w0 M H f args K := hh
theorem VCall.isF {P : Program} {w0 : World} {M : List Nat} {H : HP} (f : Nat) {args : List Value} {K : Value → HP → Prop} (hh : VCall P w0 M H f args K) : VCall P w0 M H f args K := hh
theorem VYield.is {P : Program} {w0 : World} {M : List Nat} {H : HP} {l : Nat} {args : List Value} {K : Value → HP → Prop} (hh : VYield P w0 M H l args K) : VYield P w0 M H l args K := hh
theorem VIx.is {p : Option Addr} {n size : Nat} {j : Int} {k : Value → Prop} (hh : VIx p n size j k) : VIx p n size j k := hh
theorem VB.is {p : Prop} {k : Bool → Prop} (hh : VB p k) : VB p k := hh
theorem VAr.is {kd : IntKind} {z : Int} {k : Int → Prop} (hh : VAr kd z k) : VAr kd z k := hh
theorem VQ.is {kd : IntKind} {a b : Int} {k : Int → Prop} (hh : VQ kd a b k) : VQ kd a b k := hh
theorem VM.is {a b : Int} {k : Int → Prop} (hh : VM a b k) : VM a b k := hh
theorem VSl.is {p : Option Addr} {size : Nat} {l h c : Int} {k : Option Addr → Nat → Nat → Prop} (hh : VSl p size l h c k) : VSl p size l h c k := hh
theorem VHs.is {H : HP} {k : HP → Prop} (hh : VHs H k) : VHs H k := hh
theorem VKeep.is {Hs H : HP} {q : Prop} (hh : VKeep Hs H q) : VKeep Hs H q := hh
theorem VSeq.is {at_ : Nat} {A : (Env → HP → Prop) → Prop} {B : Env → HP → Prop} (hh : VSeq at_ A B) : VSeq at_ A B := hh
theorem VLoop.is {B : Post → Env → HP → Prop} {Q : Post} {env : Env} {H : HP} (hh : VLoop B Q env H) : VLoop B Q env H := hh
theorem VRange.is {C : Cx} {F : Fx} {rd : Option Nat} {w0 : World} {M : List Nat} {g : Operand} {ps : Array Tmp} {assign body : Code} {ok : Bool} {Q : Post} {env : Env} {H : HP} (hh : VRange C F rd w0 M g ps assign body ok Q env H) : VRange C F rd w0 M g ps assign body ok Q env H := hh
theorem VBegin.is {L : LRec} {H : HP} {k : HP → Prop} (hh : VBegin L H k) : VBegin L H k := hh
theorem VRound.is {L : LRec} {j : Option Code} {H : HP} {k : HP → Prop} (hh : VRound L j H k) : VRound L j H k := hh
theorem VEnd.is {L : LRec} {H : HP} {k : Option Code → HP → Prop} (hh : VEnd L H k) : VEnd L H k := hh
theorem VUn.is {H : HP} {b : Nat} {k : HP → Prop} (hh : VUn H b k) : VUn H b k := hh
theorem VRet.is {w0 : World} {M : List Nat} {R : Ending → World → Prop} {H : HP} {v : Value} (hh : VRet w0 M R H v) : VRet w0 M R H v := hh

end Go.Vx
