import Derived.Test.YtephkjicokbckaaGreatDoorVerifyKnownKy
import Derived.Test.YtephkjicokbckaaGreatDoorVerifyKnownImg
section
set_option linter.unusedVariables false

set_option linter.unusedSimpArgs false

namespace Go.Proofs

open Go Go.Vx Go.Gm

def digB (b : UInt8) : Prop := 48 ≤ b.toNat ∧ b.toNat ≤ 57

theorem dig_of (d : Nat) (h : d < 10) : (UInt8.ofNat (48 + d)).toNat = 48 + d := by
  simp only [UInt8.toNat_ofNat']
  omega

theorem decDigits_dig (u : Nat) : ∀ b ∈ Lib.decDigits u, digB b := by
  induction u using Nat.strongRecOn with
  | ind u ih =>
    intro b hb
    rw [Lib.decDigits] at hb
    split at hb
    · rename_i h
      simp only [List.mem_singleton] at hb
      subst hb
      unfold digB
      rw [dig_of u h]
      omega
    · rename_i h
      rcases List.mem_append.1 hb with hb | hb
      · exact ih (u / 10) (by omega) b hb
      · simp only [List.mem_singleton] at hb
        subst hb
        unfold digB
        rw [dig_of (u % 10) (by omega)]
        omega

def digV (l : List UInt8) : Nat := l.foldl (fun a b => a * 10 + (b.toNat - 48)) 0

theorem digV_dec (u : Nat) : digV (Lib.decDigits u) = u := by
  induction u using Nat.strongRecOn with
  | ind u ih =>
    rw [Lib.decDigits]
    split
    · rename_i h
      unfold digV
      simp only [List.foldl_cons, List.foldl_nil]
      rw [dig_of u h]
      omega
    · rename_i h
      have := ih (u / 10) (by omega)
      unfold digV at this ⊢
      rw [List.foldl_append, this]
      simp only [List.foldl_cons, List.foldl_nil]
      rw [dig_of (u % 10) (by omega)]
      omega

theorem decDigits_inj {u v : Nat} (h : Lib.decDigits u = Lib.decDigits v) : u = v := by
  rw [← digV_dec u, h, digV_dec]

theorem itoa_no32 (n : Int) : (32 : UInt8) ∉ Lib.itoa n := by
  intro h
  unfold Lib.itoa at h
  split at h
  · rcases List.mem_cons.1 h with h | h
    · exact absurd h (by decide)
    · have := decDigits_dig _ _ h
      unfold digB at this
      have e : (32 : UInt8).toNat = 32 := rfl
      omega
  · have := decDigits_dig _ _ h
    unfold digB at this
    have e : (32 : UInt8).toNat = 32 := rfl
    omega

theorem itoa_inj {m n : Int} (h : Lib.itoa m = Lib.itoa n) : m = n := by
  have hno : ∀ u, (45 : UInt8) ∉ Lib.decDigits u := fun u hm => by
    have := decDigits_dig _ _ hm
    unfold digB at this
    have e : (45 : UInt8).toNat = 45 := rfl
    omega
  unfold Lib.itoa at h
  by_cases h1 : m < 0
  · by_cases h2 : n < 0
    · rw [if_pos h1, if_pos h2] at h
      have := decDigits_inj (List.cons.inj h).2
      omega
    · rw [if_pos h1, if_neg h2] at h
      exact absurd (by rw [← h]; exact List.mem_cons_self) (hno n.toNat)
  · by_cases h2 : n < 0
    · rw [if_neg h1, if_pos h2] at h
      exact absurd (by rw [h]; exact List.mem_cons_self) (hno m.toNat)
    · rw [if_neg h1, if_neg h2] at h
      have := decDigits_inj h
      omega

theorem split32 : ∀ {x y r r' : List UInt8}, (32 : UInt8) ∉ x → (32 : UInt8) ∉ y → x ++ 32 :: r = y ++ 32 :: r' → x = y ∧ r = r'
  | [], [], r, r', _, _, h => ⟨rfl, by simpa using h⟩
  | [], b :: y, r, r', _, hy, h => by
    simp only [List.nil_append, List.cons_append, List.cons.injEq] at h
    exact absurd (by rw [h.1]; exact List.mem_cons_self) hy
  | a :: x, [], r, r', hx, _, h => by
    simp only [List.nil_append, List.cons_append, List.cons.injEq] at h
    exact absurd (by rw [← h.1]; exact List.mem_cons_self) hx
  | a :: x, b :: y, r, r', hx, hy, h => by
    simp only [List.cons_append, List.cons.injEq] at h
    obtain ⟨h1, h2⟩ := split32 (fun hm => hx (List.mem_cons_of_mem _ hm)) (fun hm => hy (List.mem_cons_of_mem _ hm)) h.2
    exact ⟨by rw [h.1, h1], h2⟩

theorem numB_cancel {a b : Int} {r r' : List UInt8} (h : numB a ++ r = numB b ++ r') : a = b ∧ r = r' := by
  unfold numB at h
  rw [List.append_assoc, List.append_assoc] at h
  obtain ⟨h1, h2⟩ := split32 (itoa_no32 a) (itoa_no32 b) h
  exact ⟨itoa_inj h1, h2⟩

theorem boolB_cancel {a b : Bool} {r r' : List UInt8} (h : boolB a ++ r = boolB b ++ r') : a = b ∧ r = r' := by
  cases a <;> cases b <;> simp [boolB] at h
  · exact ⟨rfl, h⟩
  · exact ⟨rfl, h⟩

theorem flatMap_cancel {α : Type} {f : α → List UInt8} (hf : ∀ a b r r', f a ++ r = f b ++ r' → a = b ∧ r = r') : ∀ {l l' : List α} {r r' : List UInt8}, l.length = l'.length → l.flatMap f ++ r = l'.flatMap f ++ r' → l = l' ∧ r = r'
  | [], [], r, r', _, h => ⟨rfl, by simpa using h⟩
  | [], b :: l', r, r', hl, h => by simp at hl
  | a :: l, [], r, r', hl, h => by simp at hl
  | a :: l, b :: l', r, r', hl, h => by
    rw [List.flatMap_cons, List.flatMap_cons, List.append_assoc, List.append_assoc] at h
    obtain ⟨h1, h2⟩ := hf _ _ _ _ h
    obtain ⟨h3, h4⟩ := flatMap_cancel hf (by simpa using hl) h2
    exact ⟨by rw [h1, h3], h4⟩

theorem keyB_inj {s s' : List Sta} {d d' : List Int} {b b' : List Bool} {l l' : Int} (hs : s.length = s'.length) (hd : d.length = d'.length) (hb : b.length = b'.length) (h : keyB s d b l = keyB s' d' b' l') : s = s' ∧ d = d' ∧ b = b' ∧ l = l' := by
  unfold keyB at h
  rw [List.append_assoc, List.append_assoc, List.append_assoc, List.append_assoc] at h
  have hf : ∀ (a b : Sta) (r r' : List UInt8), (numB a.v ++ numB a.rest) ++ r = (numB b.v ++ numB b.rest) ++ r' → a = b ∧ r = r' := by
    intro a b r r' h
    rw [List.append_assoc, List.append_assoc] at h
    obtain ⟨h1, h2⟩ := numB_cancel h
    obtain ⟨h3, h4⟩ := numB_cancel h2
    cases a; cases b
    dsimp only at h1 h3
    exact ⟨by rw [h1, h3], h4⟩
  obtain ⟨h1, h2⟩ := flatMap_cancel hf hs h
  obtain ⟨h3, h4⟩ := flatMap_cancel (fun _ _ _ _ => numB_cancel) hd h2
  obtain ⟨h5, h6⟩ := flatMap_cancel (fun _ _ _ _ => boolB_cancel) hb h4
  obtain ⟨h7, _⟩ := numB_cancel (r := []) (r' := []) (by simpa using h6)
  exact ⟨h1, h3, h5, h7⟩

end Go.Proofs
end

section
set_option linter.unusedVariables false

set_option linter.unusedSimpArgs false

namespace Go.Proofs

open Go Go.Vx Go.Gm

theorem upd_copy (x : SimM) (D R : List DRow) (d d' : DRow) : upd (six x ++ (D.map drowV ++ (d :: R).map drowV)) (6 + D.length) [drowV d'] = some (six x ++ ((D ++ [d']).map drowV ++ R.map drowV)) := by
  have h6 : (six x).length = 6 := rfl
  rw [upd_mk _ _ _ (by simp [h6]; omega)]
  congr 1
  have e1 : (six x ++ (D.map drowV ++ (d :: R).map drowV)).take (6 + D.length) = six x ++ D.map drowV := by
    rw [List.take_append, List.take_of_length_le (by omega), h6, Nat.add_sub_cancel_left, List.take_append_of_le_length (by simp), List.take_of_length_le (by simp)]
  have e2 : (six x ++ (D.map drowV ++ (d :: R).map drowV)).drop (6 + D.length + [drowV d'].length) = R.map drowV := by
    rw [List.drop_append, List.drop_eq_nil_of_le (by simp [h6]; try omega), List.nil_append, h6, List.drop_append, List.drop_eq_nil_of_le (by simp; omega), List.nil_append]
    simp only [List.length_map, List.length_cons, List.length_nil, List.map_cons]
    rw [show 6 + D.length + (0 + 1) - 6 - D.length = 1 by omega]
    rfl
  rw [e1, e2]
  simp

theorem upd_full {cs vs : List Value} (h : cs.length = vs.length) : upd cs 0 vs = some vs := by
  rw [upd_mk _ _ _ (by omega), List.take_zero, List.nil_append, List.drop_eq_nil_of_le (by omega), List.append_nil]

theorem oneAll_mk : ∀ {l : List Value}, (∀ v ∈ l, v.oneCell' = true) → oneAll l = true
  | [], _ => rfl
  | v :: l, h => by simp only [oneAll, h v List.mem_cons_self, oneAll_mk fun u hu => h u (List.mem_cons_of_mem _ hu)]

theorem Copy_any (x : SimM) (hx : SimRun x) (w : World) (hr : SimRd w x) :
    Calls Tryz.prog 56 #[.pointer (some ⟨x.b, 0, none⟩)] w fun e w' => ∃ y : SimM, e = .returned (.pointer (some ⟨y.b, 0, none⟩)) ∧
      (SimRun y ∧ y.N = x.N ∧ y.tick = x.tick ∧ y.sts = x.sts ∧ y.D.map (·.l) = x.D.map (·.l) ∧ shrH y = shrH x) ∧ St w [] (ownH y) w' := by
  obtain ⟨hxo, hxs, hxt⟩ := hx
  obtain ⟨hc, hst, hdue⟩ := hr
  have hNk := hxo.net
  have hpos := hNk.some
  have hfew := hNk.few
  have hsl := hxo.sts
  have hDl := hxo.due
  have hcells := hxo.cells
  have h22 : (simC x).length = 22 := by simp [simC]; omega
  have k0 : sub (simC x) 0 22 = some (simC x) := by rw [sub_mk _ _ _ (by omega), List.drop_zero, List.take_of_length_le (by omega)]
  have k5 : sub (simC x) 5 1 = some [.slice (some ⟨x.sb, 0, none⟩) x.sts.length x.sc] := by rw [sub_mk _ _ _ (by omega)]; rfl
  have k6 : sub (simC x) 6 16 = some (x.D.map drowV) := by
    rw [sub_mk _ _ _ (by omega)]
    show some ((x.D.map drowV).take 16) = _
    rw [List.take_of_length_le (by simp; omega)]
  refine enter (C := Tryz.cx) (F := Tryz.fx56) (args := [_]) Tryz.func56 rfl rfl rfl Tryz.ok56 (St.start w []) ?_
  have hup5 : ∀ g c, upd (six x ++ x.D.map drowV) 5 [.slice (some ⟨g, 0, none⟩) x.sts.length c] = some (six { x with sb := g, sc := c } ++ x.D.map drowV) := by
    intro g c
    rw [upd_mk _ _ _ (by simp [six])]
    rfl
  have hone : oneAll (simC x) = true := oneAll_mk fun v hv => by
    rw [simC_eq] at hv
    rcases List.mem_append.1 hv with h | h
    · simp only [six, List.mem_cons, List.not_mem_nil, or_false] at h
      rcases h with rfl | rfl | rfl | rfl | rfl | rfl <;> first | rfl | exact hxo.sv
    · obtain ⟨d, _, rfl⟩ := List.mem_map.1 h; rfl
  repeat' (conv => whnf); first | (refine VCall.isF 122 ?_; refine VCall.inl (F := Tryz.fx122) Tryz.func122 rfl rfl rfl Tryz.ok122 ?_) | (refine VLd.is ?_; refine VLd.mk (Rd.cast (.old (hc.part k0) (by simp [simC]; omega) (by simp)) (by first | omega | (dsimp only; omega) | rfl)) ?_) | (refine VLd.is ?_; refine VLd.mk (Rd.cast (.old (hc.part k5) rfl (by simp)) (by first | omega | (dsimp only; omega) | rfl)) ?_) | (refine VNew.mk fun b3 => ?_) | (refine VSeq.go ?_) | (refine VB.is ?_; refine VB.yes (by omega) fun _ => ?_)
  all_goals (conv => whnf)
  rw [show lenL (cellsL (.agg (simC x).toArray)) = 22 by rw [lenL_eq]; exact h22]
  repeat' (conv => whnf); first | (refine VSt.is ?_; refine VSt.cast (off' := 5) rfl (VSt.row aT (hup5 _ _) rfl ?_)) | (refine VSt.is ?_; refine VSt.row aT (upd_full (vs := simC x) (by rw [h22]; rfl)) hone ?_; rw [simC_eq]) | (refine VLd.is ?_; refine VLd.mk (Rd.cast (.old (hc.part k5) rfl (by simp)) (by first | omega | (dsimp only; omega) | rfl)) ?_) | (refine VLd.is ?_; refine VLd.mk (Rd.cast (.old (hc.part k6) (by simp; omega) (by simp)) (by first | omega | (dsimp only; omega) | rfl)) ?_) | (refine VCall.isF 123 ?_; (refine VCall.genR (fun w' hw' => cloneSta_any x.sts _ _ _ _ _ (hst.keep hw' (by simp)) (by omega)) ?_; rintro ⟨p1, c1⟩ hp1; obtain ⟨g1, hg1⟩ := hp1 (by omega); dsimp only at hg1; subst hg1)) | (refine VSeq.go ?_)
  all_goals (conv => whnf)
  refine VLoop.mk (α := List DRow) (fun D => D.length ≤ 16 ∧ D.map (·.l) = (x.D.map (·.l)).take D.length)
    (fun D => [(1000000, .tuple #[]), (2, .pointer none), (3, .pointer (some ⟨b3, 0, none⟩)), (21, .agg (x.D.map drowV).toArray), (22, .int .i64 (D.length : Int))])
    (fun D => .row b3 191 (six { x with sb := g1, sc := c1 } ++ (D.map drowV ++ (x.D.drop D.length).map drowV)) :: .vec (some ⟨g1, 0, none⟩) x.sts.length c1 194 2 (flat staV x.sts) :: D.map drowE)
    (fun D => 16 - D.length) [] ⟨by simp, by simp⟩ aE aH ?_
  rintro D ⟨hD, hDm⟩
  rcases Nat.lt_or_ge D.length 16 with hlt | hge
  · obtain ⟨d, hd⟩ : ∃ d, x.D[D.length]? = some d := ⟨x.D[D.length]'(by omega), List.getElem?_eq_getElem _⟩
    have hdl := hcells d (List.mem_of_getElem? hd)
    have hsd := hdue d (List.mem_of_getElem? hd)
    have hdrop : x.D.drop D.length = d :: x.D.drop (D.length + 1) := by
      obtain ⟨h, rfl⟩ := List.getElem?_eq_some_iff.1 hd
      exact List.drop_eq_getElem_cons h
    have hel : sub (x.D.map drowV) (D.length * 1) 1 = some [drowV d] := by
      rw [sub_mk _ _ _ (by simp; omega), ← List.map_drop, Nat.mul_one, hdrop]
      rfl
    rw [hdrop]
    repeat' (conv => whnf); first | (refine VEl.is ?_; refine VEl.mk (by omega) (by omega) hel ?_) | (refine VCall.isF 124 ?_; (refine VCall.genR (fun w' hw' => cloneInt_any d.l _ _ _ _ _ (hsd.keep hw' (by simp)) (by omega)) ?_; rintro ⟨p2, c2⟩ hp2; obtain ⟨g2, hg2⟩ := hp2 (by omega); dsimp only at hg2; subst hg2)) | (refine VSt.is ?_; refine VSt.cast (off' := 6 + D.length) (by first | omega | (dsimp only; omega)) (VSt.row aT (upd_copy { x with sb := g1, sc := c1 } D (x.D.drop (D.length + 1)) d ⟨g2, c2, d.l⟩) rfl ?_)) | (refine VSeq.go ?_) | (refine VB.is ?_; refine VB.yes (by omega) fun _ => ?_) | (refine VAr.is ?_; refine oA ?_) | (refine VIx.is ?_; refine VIx.mk rfl (by omega) (by omega) ?_)
    all_goals (conv => whnf)
    refine VNext.mk (D ++ [⟨g2, c2, d.l⟩]) ⟨by simp; omega, ?_⟩ (by simp; omega) ?_ ?_
    · rw [List.map_append, List.length_append, hDm, List.length_cons, List.length_nil, List.take_add_one, List.getElem?_map, hd]
      rfl
    · simp only [List.length_append, List.length_cons, List.length_nil]
      exact aE
    · have e2 : (D ++ [(⟨g2, c2, d.l⟩ : DRow)]).map drowE = D.map drowE ++ [.vec (some ⟨g2, 0, none⟩) d.l.length c2 3 1 (flat intV d.l)] := by simp [drowE]
      rw [e2, List.length_append, List.length_cons, List.length_nil]
      refine HLe.cons aT (HLe.cons aT ?_)
      refine HLe.permL (A := .vec (some ⟨g2, 0, none⟩) d.l.length c2 3 1 (flat intV d.l) :: D.map drowE) ?_ (by simp)
      exact aH
  · repeat' (conv => whnf); first | (refine VSeq.go ?_) | (refine VB.is ?_; refine VB.no (by omega) fun _ => ?_)
    all_goals (conv => whnf)
    have h16 : D.length = 16 := by omega
    have hDe : D.map (·.l) = x.D.map (·.l) := by rw [hDm, h16, List.take_of_length_le (by rw [List.length_map]; omega)]
    refine ⟨fun w' hw' => ⟨{ x with b := b3, sb := g1, sc := c1, D := D }, rfl, ⟨⟨⟨hNk, hxo.rows, hxo.wired, hsl, h16, fun d hd => ?_, hxo.sv⟩, hxs, hxt⟩, rfl, rfl, rfl, hDe, rfl⟩, hw'.le ?_⟩⟩
    · have hm : d.l ∈ x.D.map (·.l) := by rw [← hDe]; exact List.mem_map_of_mem hd
      obtain ⟨d0, h0, h00⟩ := List.mem_map.1 hm
      have := hcells d0 h0
      rw [← h00]; exact this
    · rw [List.drop_eq_nil_of_le (by omega), List.map_nil, List.append_nil]
      unfold ownH
      rw [simC_eq]
      exact aH

end Go.Proofs
end
