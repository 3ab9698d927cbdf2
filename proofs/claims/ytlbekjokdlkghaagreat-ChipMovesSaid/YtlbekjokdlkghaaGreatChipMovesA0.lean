set_option linter.unusedSimpArgs false

set_option linter.unusedVariables false
theorem gX.{u} {α : Sort u} (a : α) : ∃ x, a = x := ⟨a, rfl⟩
theorem qq.{u_1}:∀ {α : Type u_1} {l : List α} {i : Nat} (h : i < l.length), l[i]? = Option.some l[i]:=@List.getElem?_eq_getElem
theorem qz.{u_1}:∀ {α : Type u_1} {l : List α} {i : Nat} {a : α}, l[i]? = Option.some a → a ∈ l:=@List.mem_of_getElem?
theorem qx.{u_1}:∀ {α : Type u_1} {i : Nat} {a : α} {l : List α}, l[i]? = Option.some a ↔ ∃ h, l[i] = a:=@List.getElem?_eq_some_iff
theorem qj.{u_1,u_2}:∀ {α : Type u_1} {β : Type u_2} {f : α → β} {l : List α} {i : Nat}, (List.map f l)[i]? = Option.map f l[i]?:=@List.getElem?_map
theorem qv.{u_1,u_2}:∀ {α : Type u_1} {β : Type u_2} {as : List α} (f : α → β), (List.map f as).length = as.length:=@List.length_map
theorem qw.{u_1}:∀ {α : Type u_1} {as bs : List α}, (as ++ bs).length = as.length + bs.length:=@List.length_append
theorem qy:∀ (n m : Nat), n < m ∨ n ≥ m:=@Nat.lt_or_ge
theorem qg.{u_1}:∀ {α : Type u_1} {a : α} {l : List α}, a ∈ a :: l:=@List.mem_cons_self
theorem qf.{u_1}:∀ {α : Type u_1} {l : List α} {i : Nat}, l.length ≤ i → l[i]? = Option.none:=@List.getElem?_eq_none
theorem qh.{u_1}:∀ {α : Type u_1} {i : Nat} {l : List α}, (List.take i l).length = Min.min i l.length:=@List.length_take
theorem qp.{u_1}:∀ {α : Type u_1} {l₁ l₂ : List α}, (∀ (i : Nat), l₁[i]? = l₂[i]?) → l₁ = l₂:=@List.ext_getElem?
theorem qt.{u_1}:∀ {α : Type u_1} {a b : α}, a ∈ [b] ↔ a = b:=@List.mem_singleton
theorem ql.{u_1,u_2}:∀ {α : Type u_1} {β : Type u_2} {f : α → β} {l₁ l₂ : List α}, List.map f (l₁ ++ l₂) = List.map f l₁ ++ List.map f l₂:=@List.map_append
theorem qe.{u_1}:∀ {α : Type u_1} {i : Nat} {l : List α}, l.length ≤ i → List.take i l = l:=@List.take_of_length_le
theorem qi.{u_1}:∀ {α : Type u_1} {l : List α} {i : Nat}, List.take (i + 1) l = List.take i l ++ l[i]?.toList:=@List.take_add_one
theorem qo.{u_1,u_2}:∀ {α : Type u_1} {β : Type u_2} {b : β} {f : α → β} {l : List α}, b ∈ List.map f l ↔ ∃ a, a ∈ l ∧ f a = b:=@List.mem_map
theorem qu.{u_1}:∀ {α : Type u_1} (y : α) {a : α} {l : List α}, a ∈ l → a ∈ y :: l:=@List.mem_cons_of_mem
theorem qQ.{u_1}:∀ {α : Type u_1} {b : α} {l : List α} {a : α}, a ∈ b :: l ↔ a = b ∨ a ∈ l:=@List.mem_cons
theorem qX:∀ {i n : Nat}, i < n → (List.range n)[i]? = Option.some i:=@List.getElem?_range
theorem qJ.{u_1}:∀ {α : Type u_1} (as bs cs : List α), as ++ bs ++ cs = as ++ (bs ++ cs):=@List.append_assoc
theorem qV.{u_1,u_2}:∀ {α : Type u_1} {β : Type u_2} (a : α) (f : α → β), Option.map f (Option.some a) = Option.some (f a):=@Option.map_some
theorem qK.{u_1}:∀ {α : Type u_1} (val val_1 : α), (Option.some val = Option.some val_1) = (val = val_1):=@Option.some.injEq
theorem qW.{u_1}:∀ {α : Type u_1} (a : α), (Option.some a).toList = [a]:=@Option.toList_some
theorem qY.{u_1}:∀ {α : Type u_1} {a b : α}, (Option.some a).getD b = a:=@Option.getD_some
theorem qG.{u_1}:∀ {α : Type u_1} {i : Nat} {l : List α} (h : i < l.length), List.drop i l = l[i] :: List.drop (i + 1) l:=@List.drop_eq_getElem_cons
theorem qF.{u_1}:∀ {α : Type u_1} {l : List α}, l.length = 0 → l = []:=@List.eq_nil_of_length_eq_zero
theorem qH.{u_1}:∀ {α : Type u_1} {a : α} {s t : List α}, a ∈ s ++ t ↔ a ∈ s ∨ a ∈ t:=@List.mem_append
theorem qB:∀ (n : Nat), 0 ≤ n:=@Nat.zero_le
theorem qP.{u_1}:∀ {α : Type u_1} {p : α → Bool} {as : List α} {x : α}, x ∈ List.filter p as ↔ x ∈ as ∧ p x = Bool.true:=@List.mem_filter
theorem qD.{u_1}:∀ {α : Type u_1} (p : α → Bool) (l : List α), (List.filter p l).length ≤ l.length:=@List.length_filter_le
theorem qM.{u_1}:∀ {α : Type u_1} {a : α}, [a].length = 1:=@List.length_singleton
theorem qN.{u_1,u_2}:∀ {α : Type u_1} {β : Type u_2} {l : List α} {a : α} {f : α → β}, a ∈ l → f a ∈ List.map f l:=@List.mem_map_of_mem
theorem qC.{u_1}:∀ {α : Type u_1} (as : List α), as ++ [] = as:=@List.append_nil
theorem qT.{u_1}:∀ {α : Type u_1} {p : α → Bool} {l : List α}, List.countP p l ≤ l.length:=@List.countP_le_length
theorem qR.{u_1}:∀ {α : Type u_1} {a : α} {as : List α}, (a :: as).length = as.length + 1:=@List.length_cons
theorem qS.{u_1}:∀ {α : Type u_1} (f : α → α) (i : Nat) (l : List α) (j : Nat), (l.modify i f)[j]? = (fun a => if i = j then f a else a) <$> l[j]?:=@List.getElem?_modify
theorem qL:∀ {m n : Nat}, m ∈ List.range n ↔ m < n:=@List.mem_range
theorem qA:∀ (n : Nat), n ≤ n:=@Nat.le_refl
theorem qE:∀ {n m : Nat}, n.beq m = Bool.true → n = m:=@Nat.eq_of_beq_eq_true
theorem qI.{u_1,u_2}:∀ {α : Type u_1} {β : Type u_2} {f : α → β} {a : α} {l : List α}, List.map f (a :: l) = f a :: List.map f l:=@List.map_cons
theorem qO.{u_1}:∀ {α : Type u_1} {l : List α} {i j : Nat} {a : α}, (l.set i a)[j]? = if i = j then if i < l.length then Option.some a else Option.none else l[j]?:=@List.getElem?_set
theorem qU.{u_1,u_2}:∀ {α : Type u_1} {β : Type u_2} {f : α → β} {a : α}, List.map f [a] = [f a]:=@List.map_singleton
theorem Qq.{u_1}:∀ {α : Type u_1} {l : List α} {i : Nat} {a b : α}, a ∈ l.set i b → a ∈ l ∨ a = b:=@List.mem_or_eq_of_mem_set
theorem Qz:∀ {n : Nat}, List.range n.succ = List.range n ++ [n]:=@List.range_succ
theorem Qx.{u_1,u_2}:∀ {α : Type u_1} {β : Type u_2} {f : β → α → β} {b : β} {l l' : List α}, List.foldl f b (l ++ l') = List.foldl f (List.foldl f b l) l':=@List.foldl_append
theorem Qj:∀ {n m : Nat} (k : Nat), n ≤ m → n * k ≤ m * k:=@Nat.mul_le_mul_right
theorem Qv.{u_1}:∀ {α : Type u_1} {a : α} {i : Nat} {l : List α}, (a :: l)[i + 1]? = l[i]?:=@List.getElem?_cons_succ
theorem Qk.{u_1}:∀ {α : Type u_1} {l : List α}, List.take l.length l = l:=@List.take_length
theorem Qw.{u_1}:∀ {α : Type u_1} {a : α} {as bs : List α}, a :: as ++ bs = a :: (as ++ bs):=@List.cons_append
theorem Qy.{u_1}:∀ {α : Type u_1} {xs : List α} {i j : Nat}, (List.drop i xs)[j]? = xs[i + j]?:=@List.getElem?_drop
theorem Qg:∀ {n : Nat}, (List.range n).length = n:=@List.length_range
theorem Qf.{u_1,u_2}:∀ {α : Type u_1} {β : Type u_2} {x : α} {xs : List α} {f : α → List β}, List.flatMap f (x :: xs) = f x ++ List.flatMap f xs:=@List.flatMap_cons
theorem Qh.{u_1}:∀ {α : Type u_1} {i : Nat} {b : α} {xs : Array α}, xs[i]? = Option.some b ↔ ∃ h, xs[i] = b:=@Array.getElem?_eq_some_iff
theorem Qb:∀ {n m k : Nat}, n ≤ m → m ≤ k → n ≤ k:=@Nat.le_trans
theorem Qp.{u_1,u_2}:∀ {α : Type u_1} {β : Type u_2} {a : α} {l : List α} {f : β → α → β} {b : β}, List.foldl f b (a :: l) = List.foldl f (f b a) l:=@List.foldl_cons
theorem Qd:∀ (a b : Bool), ((a && b) = Bool.true) = (a = Bool.true ∧ b = Bool.true):=@Bool.and_eq_true
theorem Qm:∀ {p : Prop} [Decidable p], ¬¬p ↔ p:=@Decidable.not_not
theorem Qn.{u_1}:∀ {α : Type u_1} {n : Nat} {a : α}, (List.replicate n a).length = n:=@List.length_replicate
theorem Qc.{u_1}:∀ {α : Type u_1} (as : List α), [] ++ as = as:=@List.nil_append
theorem Qt.{u_1}:∀ {α : Type u_1} {l : List α} {i j : Nat}, (List.take i l)[j]? = if j < i then l[j]? else Option.none:=@List.getElem?_take
theorem Qr.{u_1}:∀ {α : Type u_1} {l₁ l₂ : List α} {i : Nat}, l₁.length ≤ i → (l₁ ++ l₂)[i]? = l₂[i - l₁.length]?:=@List.getElem?_append_right
theorem Qs.{u_1}:∀ {α : Type u_1} {i : Nat} {l : List α}, (List.drop i l).length = l.length - i:=@List.length_drop
theorem Ql:∀ {a : Int}, 0 ≤ a → ↑a.toNat = a:=@Int.toNat_of_nonneg
theorem Qa.{u_1}:∀ {α : Type u_1} {p : α → Bool} (l₁ l₂ : List α), List.filter p (l₁ ++ l₂) = List.filter p l₁ ++ List.filter p l₂:=@List.filter_append
theorem Qe.{u_1}:∀ {α : Type u_1} {l₁ l₂ : List α}, (l₁ ++ l₂).Nodup ↔ l₁.Nodup ∧ l₂.Nodup ∧ ∀ (a : α), a ∈ l₁ → ∀ (b : α), b ∈ l₂ → a ≠ b:=@List.nodup_append
theorem Qi.{u_1}:∀ {α : Type u_1} {as : List α} {i : Nat}, as.length ≤ i → List.drop i as = []:=@List.drop_eq_nil_of_le
theorem Qo:∀ (n : Nat), 0 + n = n:=@Nat.zero_add
theorem Qu.{u_1}:∀ {α : Type u_1} {l : List α} {n : Nat} (h : n < l.length), l[n] ∈ l:=@List.getElem_mem
theorem QQ.{u_1}:∀ {α : Type u_1} {xs ys : Array α}, xs.toList = ys.toList ↔ xs = ys:=@Array.toList_inj
theorem QZ.{u_1}:∀ {α : Type u_1} {l : List α} {i : Nat} {a : α}, i < l.length → (l.set i a)[i]? = Option.some a:=@List.getElem?_set_self
theorem QX.{u_1}:∀ {α : Type u_1} {a : α} {l : List α}, (a :: l)[0]? = Option.some a:=@List.getElem?_cons_zero
theorem QJ.{u_1}:∀ {α : Type u_1} (i : Nat) (l : List α), List.take i l ++ List.drop i l = l:=@List.take_append_drop
theorem QV:(Bool.false = Bool.true) = False:=@Bool.false_eq_true
theorem QK.{u_1,u_2}:∀ {α : Type u_1} {β : Type u_2} {xs ys : List α} {f : α → List β}, List.flatMap f (xs ++ ys) = List.flatMap f xs ++ List.flatMap f ys:=@List.flatMap_append
theorem QW.{u_1}:∀ {α : Type u_1} {a : α} {as : List α} (bs : List α), a ∈ as → a ∈ as ++ bs:=@List.mem_append_left
theorem QY.{u_1}:∀ {α : Type u_1} {l₁ l₂ : List α} {i : Nat}, i < l₁.length → (l₁ ++ l₂)[i]? = l₁[i]?:=@List.getElem?_append_left
theorem QG.{u_1,u_2}:∀ {α : Type u_1} {β : Type u_2} {f : α → List β} {b : β} {l : List α}, b ∈ List.flatMap f l ↔ ∃ a, a ∈ l ∧ b ∈ f a:=@List.mem_flatMap
theorem QF.{u_1,u_2}:∀ {α : Type u_1} {β : Type u_2} {l : List α} {f : α → List β}, List.flatMap f l = (List.map f l).flatten:=@List.flatMap_def
theorem QH.{u_1}:∀ {α : Type u_1} {as : List α} {i : Nat} {a : α}, (as.set i a).length = as.length:=@List.length_set
theorem QB.{u_1}:∀ {n : Nat} {α : Type u_1} {a : α} {i : Nat}, (List.replicate n a)[i]? = if i < n then Option.some a else Option.none:=@List.getElem?_replicate
theorem QD:∀ (n m k : Nat), (n + m) * k = n * k + m * k:=@Nat.add_mul
theorem QM.{u_1}:∀ {α : Type u_1} {a b : α} {n : Nat}, b ∈ List.replicate n a → b = a:=@List.eq_of_mem_replicate
theorem QN.{u_1}:∀ {α : Type u_1} {t₁ t₂ : List α} (l : List α), t₁.Perm t₂ → (l ++ t₁).Perm (l ++ t₂):=@List.Perm.append_left
theorem QC.{u_1}:∀ {α : Type u_1} {a : α} {l : List α}, (a :: l).Nodup ↔ ¬a ∈ l ∧ l.Nodup:=@List.nodup_cons
theorem QT.{u_1}:∀ {α : Type u_1} {b : α} (as : List α) {bs : List α}, b ∈ bs → b ∈ as ++ bs:=@List.mem_append_right
theorem QS.{u_1}:∀ {α : Type u_1} {as : List α}, as.toArray.toList = as:=@List.toList_toArray
theorem QL:∀ (n m : Nat), n + m - n = m:=@Nat.add_sub_cancel_left
theorem QA.{u_1,u_2}:∀ {α : Type u_1} {β : Type u_2} {f : α → β}, List.map f [] = []:=@List.map_nil
theorem QI.{u_1}:∀ {α : Type u_1} {l : List α}, 0 < l.length ↔ l ≠ []:=@List.length_pos_iff
theorem QO:∀ {n m : Nat}, n.ble m = Bool.true → n ≤ m:=@Nat.le_of_ble_eq_true
theorem QU.{u_1}:∀ {α : Type u_1} {l : List α}, List.take 0 l = []:=@List.take_zero
theorem jq.{u_1}:∀ {α : Type u_1} {a : α}, ¬a ∈ []:=@List.not_mem_nil
theorem jz.{u_1}:∀ {α : Type u_1} {l : List α} {i : Nat}, l[i]? = Option.none ↔ l.length ≤ i:=@List.getElem?_eq_none_iff
theorem jx:∀ (n : Nat), n - n = 0:=@Nat.sub_self
theorem jv:∀ {a b : Nat}, a < b → a % b = a:=@Nat.mod_eq_of_lt
theorem jk.{u_1}:∀ {c : Prop} {h : Decidable c}, ¬c → ∀ {α : Sort u_1} {t e : α}, (if c then t else e) = e:=@if_neg
theorem jw.{u_1}:∀ {c : Prop} {h : Decidable c}, c → ∀ {α : Sort u_1} {t e : α}, (if c then t else e) = t:=@if_pos
theorem jy:∀ {p : Prop} [inst : Decidable p], (Decidable.decide p = Bool.true) = p:=@decide_eq_true_eq
theorem jg:∀ {p : Prop} [dec : Decidable p], (¬p → False) → p:=@Decidable.byContradiction
theorem jf:∀ (n : Nat), ((n : Int)).toNat = n:=@Int.toNat_natCast
theorem jh.{u_1}:∀ {α : Type u_1} {a : α} {l : List α}, a ∈ l → ∃ i : Nat, l[i]? = Option.some a:=@List.getElem?_of_mem
theorem qZ {p:Prop}(h:p:=by omega):p:=h
theorem oE {p:Prop}(h:p:=by first|omega|(dsimp only;omega)|rfl):p:=h
theorem oR {p:Prop}(h:p:=by intro _;rfl):p:=h
theorem oU {p:Prop}(h:p:=by simp):p:=h
