import Derived.Test.YtephkjicokbckaaGreatDoorVerifyExactImg
set_option linter.unusedVariables false

set_option linter.unusedSimpArgs false

namespace Go.Proofs

open Go Go.Vx Go.Gm

theorem upd_copy (x : SimM) (D R : List DRow) (d d' : DRow) : upd (six x ++ (D.map drowV ++ (d :: R).map drowV)) (6 + D.length) [drowV d'] = some (six x ++ ((D ++ [d']).map drowV ++ R.map drowV)) := by
  have h6 : (six x).length = 6 := rfl
  rw [upd_mk _ _ _ (by simp [h6]; omega)]
  congr 1
  have e1 : (six x ++ (D.map drowV ++ (d :: R).map drowV)).take (6 + D.length) = six x ++ D.map drowV := by
    rw [List.take_append, List.take_of_length_le (by omega), h6, Nat.add_sub_cancel_left, List.take_append_of_le_length (by simp), List.take_of_length_le (by simp)]
  have e2 : (six x ++ (D.map drowV ++ (d :: R).map drowV)).drop (6 + D.length + [drowV d'].length) = R.map drowV := by
    rw [List.drop_append, List.drop_eq_nil_of_le (by simp [h6]; try omega), List.nil_append, h6, List.drop_append, List.drop_eq_nil_of_le (by simp; omega), List.nil_append]
    simp only [List.length_map, List.length_cons, List.length_nil, List.map_cons]
    rw [show 6 + D.length + (0 + 1) - 6 - D.length = 1 by omega]
    rfl
  rw [e1, e2]
  simp

theorem upd_full {cs vs : List Value} (h : cs.length = vs.length) : upd cs 0 vs = some vs := by
  rw [upd_mk _ _ _ (by omega), List.take_zero, List.nil_append, List.drop_eq_nil_of_le (by omega), List.append_nil]

theorem oneAll_mk : ∀ {l : List Value}, (∀ v ∈ l, v.oneCell' = true) → oneAll l = true
  | [], _ => rfl
  | v :: l, h => by simp only [oneAll, h v List.mem_cons_self, oneAll_mk fun u hu => h u (List.mem_cons_of_mem _ hu)]

theorem Copy_any (x : SimM) (hx : SimRun x) (w : World) (hr : SimRd w x) :
    Calls Tryz.prog 56 #[.pointer (some ⟨x.b, 0, none⟩)] w fun e w' => ∃ y : SimM, e = .returned (.pointer (some ⟨y.b, 0, none⟩)) ∧
      (SimRun y ∧ y.N = x.N ∧ y.tick = x.tick ∧ y.sts = x.sts ∧ y.D.map (·.l) = x.D.map (·.l) ∧ shrH y = shrH x) ∧ St w [] (ownH y) w' := by
  obtain ⟨hxo, hxs, hxt⟩ := hx
  obtain ⟨hc, hst, hdue⟩ := hr
  have hNk := hxo.net
  have hpos := hNk.some
  have hfew := hNk.few
  have hsl := hxo.sts
  have hDl := hxo.due
  have hcells := hxo.cells
  have h22 : (simC x).length = 22 := by simp [simC]; omega
  have k0 : sub (simC x) 0 22 = some (simC x) := by rw [sub_mk _ _ _ (by omega), List.drop_zero, List.take_of_length_le (by omega)]
  have k5 : sub (simC x) 5 1 = some [.slice (some ⟨x.sb, 0, none⟩) x.sts.length x.sc] := by rw [sub_mk _ _ _ (by omega)]; rfl
  have k6 : sub (simC x) 6 16 = some (x.D.map drowV) := by
    rw [sub_mk _ _ _ (by omega)]
    show some ((x.D.map drowV).take 16) = _
    rw [List.take_of_length_le (by simp; omega)]
  refine enter (C := Tryz.cx) (F := Tryz.fx56) (args := [_]) Tryz.func56 rfl rfl rfl Tryz.ok56 (St.start w []) ?_
  have hup5 : ∀ g c, upd (six x ++ x.D.map drowV) 5 [.slice (some ⟨g, 0, none⟩) x.sts.length c] = some (six { x with sb := g, sc := c } ++ x.D.map drowV) := by
    intro g c
    rw [upd_mk _ _ _ (by simp [six])]
    rfl
  have hone : oneAll (simC x) = true := oneAll_mk fun v hv => by
    rw [simC_eq] at hv
    rcases List.mem_append.1 hv with h | h
    · simp only [six, List.mem_cons, List.not_mem_nil, or_false] at h
      rcases h with rfl | rfl | rfl | rfl | rfl | rfl <;> first | rfl | exact hxo.sv
    · obtain ⟨d, _, rfl⟩ := List.mem_map.1 h; rfl
  repeat' (conv => whnf); first | (refine VCall.isF 122 ?_; refine VCall.inl (F := Tryz.fx122) Tryz.func122 rfl rfl rfl Tryz.ok122 ?_) | (refine VLd.is ?_; refine VLd.mk (Rd.cast (.old (hc.part k0) (by simp [simC]; omega) (by simp)) (by first | omega | (dsimp only; omega) | rfl)) ?_) | (refine VLd.is ?_; refine VLd.mk (Rd.cast (.old (hc.part k5) rfl (by simp)) (by first | omega | (dsimp only; omega) | rfl)) ?_) | (refine VNew.mk fun b3 => ?_) | (refine VSeq.go ?_) | (refine VB.is ?_; refine VB.yes (by omega) fun _ => ?_) | (refine VB.is ?_; refine VB.no (by omega) fun _ => ?_) | (refine VB.split (fun _ => ?_) (fun _ => ?_)) | (refine boolE_split (fun h => ?_) (fun h => ?_) <;> subst h) | (refine VLd.is ?_; refine VLd.mk (.row aT (by rfl)) ?_) | (refine VSt.is ?_; refine VSt.row aT (by rfl) (by first | rfl | assumption) ?_) | (refine VNew.mk fun _ => ?_) | (refine VAr.is ?_; refine oA ?_) | (refine VIx.is ?_; refine VIx.mk rfl (by omega) (by omega) ?_) | (refine VKeep.is ?_; refine VKeep.mk aH ?_) | (refine VHs.mk _ (.refl _) ?_) | (refine VQ.is ?_; refine oQ ?_) | (refine VM.is ?_; refine oM ?_) | (refine And.intro ?_ ?_)
  all_goals (conv => whnf)
  rw [show lenL (cellsL (.agg (simC x).toArray)) = 22 by rw [lenL_eq]; exact h22]
  repeat' (conv => whnf); first | (refine VSt.is ?_; refine VSt.cast (off' := 5) rfl (VSt.row aT (hup5 _ _) rfl ?_)) | (refine VSt.is ?_; refine VSt.row aT (upd_full (vs := simC x) (by rw [h22]; rfl)) hone ?_; rw [simC_eq]) | (refine VCall.isF 122 ?_; refine VCall.inl (F := Tryz.fx122) Tryz.func122 rfl rfl rfl Tryz.ok122 ?_) | (refine VLd.is ?_; refine VLd.mk (Rd.cast (.old (hc.part k5) rfl (by simp)) (by first | omega | (dsimp only; omega) | rfl)) ?_) | (refine VLd.is ?_; refine VLd.mk (Rd.cast (.old (hc.part k6) (by simp; omega) (by simp)) (by first | omega | (dsimp only; omega) | rfl)) ?_) | (refine VCall.isF 123 ?_; (refine VCall.genR (fun w' hw' => cloneSta_any x.sts _ _ _ _ _ (hst.keep hw' (by simp)) (by omega)) ?_; rintro ⟨p1, c1⟩ hp1; obtain ⟨g1, hg1⟩ := hp1 (by omega); dsimp only at hg1; subst hg1)) | (refine VSeq.go ?_) | (refine VB.is ?_; refine VB.yes (by omega) fun _ => ?_) | (refine VB.is ?_; refine VB.no (by omega) fun _ => ?_) | (refine VB.split (fun _ => ?_) (fun _ => ?_)) | (refine boolE_split (fun h => ?_) (fun h => ?_) <;> subst h) | (refine VLd.is ?_; refine VLd.mk (.row aT (by rfl)) ?_) | (refine VSt.is ?_; refine VSt.row aT (by rfl) (by first | rfl | assumption) ?_) | (refine VNew.mk fun _ => ?_) | (refine VAr.is ?_; refine oA ?_) | (refine VIx.is ?_; refine VIx.mk rfl (by omega) (by omega) ?_) | (refine VKeep.is ?_; refine VKeep.mk aH ?_) | (refine VHs.mk _ (.refl _) ?_) | (refine VQ.is ?_; refine oQ ?_) | (refine VM.is ?_; refine oM ?_) | (refine And.intro ?_ ?_)
  all_goals (conv => whnf)
  refine VLoop.mk (α := List DRow) (fun D => D.length ≤ 16 ∧ D.map (·.l) = (x.D.map (·.l)).take D.length)
    (fun D => [(1000000, .tuple #[]), (2, .pointer none), (3, .pointer (some ⟨b3, 0, none⟩)), (21, .agg (x.D.map drowV).toArray), (22, .int .i64 (D.length : Int))])
    (fun D => .row b3 191 (six { x with sb := g1, sc := c1 } ++ (D.map drowV ++ (x.D.drop D.length).map drowV)) :: .vec (some ⟨g1, 0, none⟩) x.sts.length c1 194 2 (flat staV x.sts) :: D.map drowE)
    (fun D => 16 - D.length) [] ⟨by simp, by simp⟩ aE aH ?_
  rintro D ⟨hD, hDm⟩
  rcases Nat.lt_or_ge D.length 16 with hlt | hge
  · obtain ⟨d, hd⟩ : ∃ d, x.D[D.length]? = some d := ⟨x.D[D.length]'(by omega), List.getElem?_eq_getElem _⟩
    have hdl := hcells d (List.mem_of_getElem? hd)
    have hsd := hdue d (List.mem_of_getElem? hd)
    have hdrop : x.D.drop D.length = d :: x.D.drop (D.length + 1) := by
      obtain ⟨h, rfl⟩ := List.getElem?_eq_some_iff.1 hd
      exact List.drop_eq_getElem_cons h
    have hel : sub (x.D.map drowV) (D.length * 1) 1 = some [drowV d] := by
      rw [sub_mk _ _ _ (by simp; omega), ← List.map_drop, Nat.mul_one, hdrop]
      rfl
    rw [hdrop]
    repeat' (conv => whnf); first | (refine VEl.is ?_; refine VEl.mk (by omega) (by omega) hel ?_) | (refine VCall.isF 124 ?_; (refine VCall.genR (fun w' hw' => cloneInt_any d.l _ _ _ _ _ (hsd.keep hw' (by simp)) (by omega)) ?_; rintro ⟨p2, c2⟩ hp2; obtain ⟨g2, hg2⟩ := hp2 (by omega); dsimp only at hg2; subst hg2)) | (refine VSt.is ?_; refine VSt.cast (off' := 6 + D.length) (by first | omega | (dsimp only; omega)) (VSt.row aT (upd_copy { x with sb := g1, sc := c1 } D (x.D.drop (D.length + 1)) d ⟨g2, c2, d.l⟩) rfl ?_)) | (refine VSeq.go ?_) | (refine VB.is ?_; refine VB.yes (by omega) fun _ => ?_) | (refine VB.is ?_; refine VB.no (by omega) fun _ => ?_) | (refine VB.split (fun _ => ?_) (fun _ => ?_)) | (refine boolE_split (fun h => ?_) (fun h => ?_) <;> subst h) | (refine VLd.is ?_; refine VLd.mk (.row aT (by rfl)) ?_) | (refine VSt.is ?_; refine VSt.row aT (by rfl) (by first | rfl | assumption) ?_) | (refine VNew.mk fun _ => ?_) | (refine VAr.is ?_; refine oA ?_) | (refine VIx.is ?_; refine VIx.mk rfl (by omega) (by omega) ?_) | (refine VKeep.is ?_; refine VKeep.mk aH ?_) | (refine VHs.mk _ (.refl _) ?_) | (refine VQ.is ?_; refine oQ ?_) | (refine VM.is ?_; refine oM ?_) | (refine And.intro ?_ ?_)
    all_goals (conv => whnf)
    refine VNext.mk (D ++ [⟨g2, c2, d.l⟩]) ⟨by simp; omega, ?_⟩ (by simp; omega) ?_ ?_
    · rw [List.map_append, List.length_append, hDm, List.length_cons, List.length_nil, List.take_add_one, List.getElem?_map, hd]
      rfl
    · simp only [List.length_append, List.length_cons, List.length_nil]
      exact aE
    · have e2 : (D ++ [(⟨g2, c2, d.l⟩ : DRow)]).map drowE = D.map drowE ++ [.vec (some ⟨g2, 0, none⟩) d.l.length c2 3 1 (flat intV d.l)] := by simp [drowE]
      rw [e2, List.length_append, List.length_cons, List.length_nil]
      refine HLe.cons aT (HLe.cons aT ?_)
      refine HLe.permL (A := .vec (some ⟨g2, 0, none⟩) d.l.length c2 3 1 (flat intV d.l) :: D.map drowE) ?_ (by simp)
      exact aH
  · repeat' (conv => whnf); first | (refine VSeq.go ?_) | (refine VB.is ?_; refine VB.yes (by omega) fun _ => ?_) | (refine VB.is ?_; refine VB.no (by omega) fun _ => ?_) | (refine VB.split (fun _ => ?_) (fun _ => ?_)) | (refine boolE_split (fun h => ?_) (fun h => ?_) <;> subst h) | (refine VLd.is ?_; refine VLd.mk (.row aT (by rfl)) ?_) | (refine VSt.is ?_; refine VSt.row aT (by rfl) (by first | rfl | assumption) ?_) | (refine VNew.mk fun _ => ?_) | (refine VAr.is ?_; refine oA ?_) | (refine VIx.is ?_; refine VIx.mk rfl (by omega) (by omega) ?_) | (refine VKeep.is ?_; refine VKeep.mk aH ?_) | (refine VHs.mk _ (.refl _) ?_) | (refine VQ.is ?_; refine oQ ?_) | (refine VM.is ?_; refine oM ?_) | (refine And.intro ?_ ?_)
    all_goals (conv => whnf)
    have h16 : D.length = 16 := by omega
    have hDe : D.map (·.l) = x.D.map (·.l) := by rw [hDm, h16, List.take_of_length_le (by rw [List.length_map]; omega)]
    refine ⟨fun w' hw' => ⟨{ x with b := b3, sb := g1, sc := c1, D := D }, rfl, ⟨⟨⟨hNk, hxo.rows, hxo.wired, hsl, h16, fun d hd => ?_, hxo.sv⟩, hxs, hxt⟩, rfl, rfl, rfl, hDe, rfl⟩, hw'.le ?_⟩⟩
    · have hm : d.l ∈ x.D.map (·.l) := by rw [← hDe]; exact List.mem_map_of_mem hd
      obtain ⟨d0, h0, h00⟩ := List.mem_map.1 hm
      have := hcells d0 h0
      rw [← h00]; exact this
    · rw [List.drop_eq_nil_of_le (by omega), List.map_nil, List.append_nil]
      unfold ownH
      rw [simC_eq]
      exact aH

end Go.Proofs
