import Derived.Test.YtlbekjokdlkghaaGreatChipMovesRuh
import Derived.Test.YtlbekjokdlkghaaGreatChipMovesMi
import Derived.Test.YtlbekjokdlkghaaGreatChipMovesTb
import Derived.Test.YtlbekjokdlkghaaGreatChipMovesRud
set_option linter.unusedVariables false
set_option linter.unusedSimpArgs false
set_option maxHeartbeats 4000000
section
namespace Go.Gm
def enQ (outs:Int)(r p:Nat)(q:Nat->Nat->List Nat)(k:Nat):Nat->Nat->List Nat:=fun a b=>if a=r/\b<k/\bH9 outs (bK1 b) then q a b++[p] else q a b
theorem kY6 (outs:Int)(r p:Nat)(q:Nat->Nat->List Nat):enQ outs r p q 0=q:=by
 funext a b
 unfold enQ
 rw [jk qZ]
theorem kY7 {outs:Int}{r p k:Nat}{q:Nat->Nat->List Nat}(h:¬bH9 outs (bK1 k)):enQ outs r p q (k+1)=enQ outs r p q k:=by
 funext a b
 unfold enQ
 by_cases h1:a=r/\b<k/\bH9 outs (bK1 b)
 ·rw [jw h1,jw ⟨h1.1,by omega,h1.2.2⟩]
 ·rw [jk h1,jk]
  rintro ⟨h2,h3,h4⟩
  by_cases hb:b=k
  ·subst hb;exact h h4
  ·exact h1 ⟨h2,by omega,h4⟩
theorem lQ2 {outs:Int}{r p k:Nat}{q:Nat->Nat->List Nat}(h:bH9 outs (bK1 k)):upQ (enQ outs r p q k) r k (enQ outs r p q k r k++[p])=enQ outs r p q (k+1):=by
 funext a b
 unfold upQ enQ
 by_cases hab:a=r/\b=k
 ·obtain ⟨rfl,rfl⟩:=hab
  rw [jw ⟨rfl,rfl⟩,jk qZ,jw ⟨rfl,by omega,h⟩]
 ·rw [jk hab]
  by_cases h1:a=r/\b<k/\bH9 outs (bK1 b)
  ·rw [jw h1,jw ⟨h1.1,by omega,h1.2.2⟩]
  ·rw [jk h1,jk]
   rintro ⟨h2,h3,h4⟩
   exact h1 ⟨h2,by omega,h4⟩
theorem kD0 (outs:Int)(r p k:Nat)(q:Nat->Nat->List Nat):enQ outs r p q k r k=q r k:=by
 unfold enQ
 rw [jk qZ]
end Go.Gm
namespace Go.Proofs
open Go Go.Vx Go.Gm
theorem kY4 {w0:World}{H R:HP}{K:Value->HP->Prop}(s:Spc)(hs:SpcOk s)(wb qb mb ml:Nat)(t6 t8 t9 t10 t12:Value)(hone:bK6 [t6,t8,t9,t10,t12]=true)
  (tt:List ERow) (pt:Option Addr) (ct bt ot:Nat) (hts:Sl w0 erV 1 tt pt tt.length bt ot) (htt:∀z∈tt,∃b o,Sl w0 bY1 3 z.l z.p z.l.length b o) (htl:∀z∈tt,z.l.length<=65536/\∀e∈z.l,EtyOk e)
  (pk:List Pkt) (pl:Option Addr) (cl bl ol:Nat) (hpl:Sl w0 pkV 4 pk pl pk.length bl ol)
  (q:Nat->Nat->List Nat) (m:List (Value×Value)) (qs:List QE) (hm:hC8 m qs) (hq:QRep qs q) (mo:List (Nat×Nat)) (hmo:mo.length=ml) (hmb:∀y∈mo,y.1<=65536/\y.2<=65536)
  (t r p:Nat) (ht:t<=10000) (hr:(r:Int)<s.wide*s.high) (hrl:r<tt.length) (hrm:r<ml) (u:Pkt) (hu:pk[p]? =some u) (huk:0<=u.key/\u.key<=65535) (z:ERow) (hz:tt[r]? =some z) (outs:Int) (hf:bH0 z.l u.key=some outs) (hout:0<=outs/\outs<32)
  (hgood:∀k,k<5->bH9 outs (bK1 k)->bS3 s.wide s.high (r:Int) (bK1 k)/\((q r k).length:Int)<s.room)
  (hT:Take H (.row wb 369 [.int .i64 s.wide,.int .i64 s.high,.int .i64 s.room,.slice pt tt.length ct,.slice pl pk.length cl,t6,.map (some qb),t8,t9,t10,.slice (some ⟨mb,0,none⟩) ml ml,t12]::.mapk qb m::(qs.flatMap qeH++(.vec (some ⟨mb,0,none⟩) ml ml 390 2 (bQ1 moV mo)::[]))) R)
  (hK:∀m' qs' mo',hC8 m' qs'->QRep qs' (enQ outs r p q 5)->mo'.length=ml->(∀y∈mo',y.1<=65536/\y.2<=65536)->K (.tuple #[]) (.row wb 369 [.int .i64 s.wide,.int .i64 s.high,.int .i64 s.room,.slice pt tt.length ct,.slice pl pk.length cl,t6,.map (some qb),t8,t9,t10,.slice (some ⟨mb,0,none⟩) ml ml,t12]::.mapk qb m'::(qs'.flatMap qeH++(.vec (some ⟨mb,0,none⟩) ml ml 390 2 (bQ1 moV mo')::R)))):
  VCall Tryz.cx.P w0 [] H 200 [.pointer (some ⟨wb,0,none⟩),.int .i64 (t:Int),.int .i64 (r:Int),.int .i64 (p:Int)] K:=by
 refine bB3 hT (bF5 ?_)
 simp only [Qw,qJ,Qc]
 have ha:=cD7 hs
 have hw:=hs.wide
 have hhh:=hs.high
 have hrm2:=hs.room
 have hpl2:=(qx.1 hu).1
 obtain ⟨bz,oz,hz2⟩:=htt z (qz hz)
 obtain ⟨hzl,hze⟩:=htl z (qz hz)
 have hfi:=fun (w':World) (h1:Sl w' bY1 3 z.l z.p z.l.length bz oz)=>fZ6 z.l hze hzl u.key huk z.p z.c bz oz w' h1
 rw [hf] at hfi
 have hone2:bK6 [.int .i64 s.wide,.int .i64 s.high,.int .i64 s.room,.slice pt tt.length ct,.slice pl pk.length cl,t6,t8,t9,t10,.slice (some ⟨mb,0,none⟩) ml ml,t12]=true:=by
  simp only [bK6,Value.oneCell'] at hone ⊢
  exact hone
 have hq1:=fun {H R:HP} {K:Value->HP->Prop} (m:List (Value×Value)) (qs:List QE) (hm:hC8 m qs) (q:Nat->Nat->List Nat) (hq:QRep qs q) (k:Prt) (hk:fV1 k)=>fG2 (w0:=w0) (H:=H) (R:=R) (K:=K) wb qb (.int .i64 s.wide) (.int .i64 s.high) (.int .i64 s.room) (.slice pt tt.length ct) (.slice pl pk.length cl) t6 t8 t9 t10 (.slice (some ⟨mb,0,none⟩) ml ml) t12 hone2 m qs hm q hq k hk
 have v2:sub (pkV u) 2 1=some [.int .i64 u.key]:=rfl
 have v3:sub (pkV u) 3 1=some [.int .i64 0]:=rfl
 have hout5:∀j:Nat,j<5->sub [.int .i64 1,.int .i64 2,.int .i64 4,.int .i64 8,.int .i64 16] (j*1) 1=some [.int .i64 (bK1 j)]:=fun j hj=>by
  rcases j with _|_|_|_|_|j
  ·rfl
  ·rfl
  ·rfl
  ·rfl
  ·rfl
  ·omega
 refine VCall.inl (F:=lG6) Tryz.func200 rfl rfl rfl lR6 ?_
 repeat' (conv=>whnf);first|(refine VIx.is ?_;refine VIx.mk (hts.ptr qZ) qZ qZ ?_)|(refine VLd.is ?_;refine oC (hts.rd0 oU oR hz rfl) ?_)|(refine VIx.is ?_;refine VIx.mk (hpl.ptr qZ) qZ qZ ?_)|(refine VLd.is ?_;refine oC (hpl.rd (o:=2) (s:=1) oU oR hu v2) ?_)|(refine bQ0 123 ?_;(refine bQ4 (fun w' hw'=>hfi w' (hz2.keep hw' oU)) ?_))|(refine bQ0 201 ?_;refine VCall.inl (F:=kW4) Tryz.func201 rfl rfl rfl kT9 ?_)|(refine VNew.mk fun go=>?_)|refine VSeq.go ?_|refine oL ?_|refine oH ?_
 all_goals (conv=>whnf)
 refine VLoop.mk (α:=Nat×List (Value×Value)×List QE×List (Nat×Nat)) (fun x=>x.1<=5/\hC8 x.2.1 x.2.2.1/\QRep x.2.2.1 (enQ outs r p q x.1)/\x.2.2.2.length=ml/\∀y∈x.2.2.2,y.1<=65536/\y.2<=65536)
  (fun x=>[(1000000,.tuple #[]),(0,.pointer (some ⟨wb,0,none⟩)),(1,.int .i64 (t:Int)),(2,.int .i64 (r:Int)),(3,.int .i64 (p:Int)),(8,.int .i64 outs),(52,.slice (some ⟨go,0,none⟩) 5 5),(53,.int .i64 5),(54,.int .i64 (x.1:Int))])
  (fun x=>.vec (some ⟨go,0,none⟩) 5 5 3 1 [.int .i64 1,.int .i64 2,.int .i64 4,.int .i64 8,.int .i64 16]::.row wb 369 [.int .i64 s.wide,.int .i64 s.high,.int .i64 s.room,.slice pt tt.length ct,.slice pl pk.length cl,t6,.map (some qb),t8,t9,t10,.slice (some ⟨mb,0,none⟩) ml ml,t12]::.mapk qb x.2.1::(x.2.2.1.flatMap qeH++(.vec (some ⟨mb,0,none⟩) ml ml 390 2 (bQ1 moV x.2.2.2)::R))) (fun x=>5 - x.1) (0,m,qs,mo) ⟨qB _,hm,by rw [kY6];exact hq,hmo,hmb⟩ aE aH ?_
 rintro ⟨k,m,qs,mo⟩ ⟨hk,hm,hq,hmo,hmb⟩
 dsimp only at hk hm hq hmo hmb ⊢
 rcases qy k 5 with hlt|hge
 ·have hpk:=dY9 hlt
  have hok:=hout5 k hlt
  have hhas:bH9 outs (bK1 k)<->((outs.toNat&&&(bK1 k).toNat:Nat):Int)≠0:=by
   unfold bH9
   omega
  by_cases hb:bH9 outs (bK1 k)
  ·obtain ⟨hlead,hroom⟩:=hgood k hlt hb
   have hnz:=hhas.1 hb
   have hnm:=fun (w':World)=>cV4 s qZ qZ (r:Int) (bK1 k) ⟨by omega,hr⟩ (cV0 hlt) w'
   unfold cK4 at hnm
   obtain ⟨y,hy⟩:∃y,mo[r]? =some y:=⟨_,qq qZ⟩
   have hyb:=hmb y (qz hy)
   have vy:sub (moV y) 0 1=some [.int .i64 (y.1:Int)]:=rfl
   have hup:upd (moV y) 0 [.int .i64 (max (y.1:Int) (((q r k).length+1:Nat):Int))]=some (moV (max y.1 ((q r k).length+1),y.2)):=by
    have hmx:max (y.1:Int) (((q r k).length+1:Nat):Int)=((max y.1 ((q r k).length+1):Nat):Int):=by omega
    rw [hmx];rfl
   repeat' (conv=>whnf);first|refine oI ?_|(refine VLd.is ?_;refine oC (.vec aT (hok)) ?_)|(refine VBit.is ?_;refine VBit.and qZ qZ ?_)|(refine VIx.is ?_;refine VIx.mk (hpl.ptr qZ) qZ qZ ?_)|(refine VLd.is ?_;refine oC (hpl.rd (o:=3) (s:=1) (by simp) (fun _=>rfl) hu v3) ?_)|(refine bQ0 241 ?_;(refine hq1 m qs hm _ hq ⟨r,k,0⟩ ⟨by dsimp only;omega,hlt,by dsimp only;omega⟩ (by repeat (first|exact Take.nil|(with_reducible apply Take.seg;(focus (exact aS)))|(apply Take.cons;(focus (exact aT)))|(apply Take.last;(focus (exact aS))))) fun m1 qs1 j1 e1 p1 c1 g1 g2 g3 g4 g5 g6 g7=>?_;dsimp only at g6;rw [if_pos rfl,kD0] at g6;rw [g6] at g7))|(refine bQ0 128 ?_;(refine bQ2 (fun w' _=>hnm w') ?_;rintro b hb2;obtain rfl:b=true:=hb2.2 hlead))|(refine bQ0 242 ?_;(refine kC4 g3 g5 (by rw [g6];omega) p (by repeat (first|exact Take.nil|(with_reducible apply Take.seg;(focus (exact aS)))|(apply Take.cons;(focus (exact aT)))|(apply Take.last;(focus (exact aS))))) fun s3 k1 k2=>?_;have g8:(qs1.set j1 ⟨e1.k,e1.b,s3⟩)[j1]? =some ⟨e1.k,e1.b,s3⟩:=(by rw [List.getElem?_set,if_pos rfl,if_pos (List.getElem?_eq_some_iff.1 g3).1]);obtain ⟨p3,c3,g9⟩:=cS7 k1;rw [k2,g6,List.length_append,List.length_singleton] at g9;have g10:QSh.val (⟨e1.k,e1.b,s3⟩:QE).s=.slice p3 ((q r k).length+1) c3:=g9))|(refine VLd.is ?_;first|(refine bD0 (e:=⟨e1.k,e1.b,s3⟩) aS g8 rfl rfl ?_;rw [g10])|(refine bD0 aS g3 rfl rfl ?_;rw [g7]))|(refine VLd.is ?_;refine oC (.vec aT (bQ8 (f:=moV) (k:=2) (fun _=>rfl) hy vy)) ?_)|(refine VSt.is ?_;refine VSt.cast (off':=r*2) oE (VSt.vec aT (bZ9 (f:=moV) (k:=2) (y:=(max y.1 ((q r k).length+1),y.2)) (fun _=>rfl) hy hup) rfl ?_))|refine VSeq.go ?_|refine oY fun _=>?_|refine oN fun _=>?_|refine oL ?_|refine oA ?_|refine oH ?_
   all_goals (conv=>whnf)
   have hqs:=g2.set (s':=s3) g3 k1 (by rw [g4])
   have er:e1.k.r=r:=by rw [g4]
   have eo:e1.k.o=k:=by rw [g4]
   rw [er,eo,k2,g6,<-kD0 outs r p k q,lQ2 hb] at hqs
   refine VNext.mk (k+1,m1,qs1.set j1 ⟨e1.k,e1.b,s3⟩,mo.set r (max y.1 ((q r k).length+1),y.2)) ⟨by dsimp only;omega,g1.congr fun z=>dJ3 (e':=⟨e1.k,e1.b,s3⟩) g3 rfl rfl z,hqs,by rw [List.length_set];exact hmo,fun z hz=>?_⟩ (by dsimp only;omega) aE aH
   rcases Qq hz with h|rfl
   ·exact hmb z h
   ·dsimp only;omega
  ·have hz0:((outs.toNat&&&(bK1 k).toNat:Nat):Int)=0:=Qm.1 fun h=>hb (hhas.2 h)
   repeat' (conv=>whnf);first|refine oI ?_|(refine VLd.is ?_;refine oC (.vec aT (hok)) ?_)|(refine VBit.is ?_;refine VBit.and qZ qZ ?_)|refine VSeq.go ?_|refine oY fun _=>?_|refine oA ?_
   all_goals (conv=>whnf)
   exact VNext.mk (k+1,m,qs,mo) ⟨by dsimp only;omega,hm,by dsimp only;rw [kY7 hb];exact hq,hmo,hmb⟩ (by dsimp only;omega) aE aH
 have hk5:k=5:=by omega
 subst hk5
 repeat' (conv=>whnf);first|refine VSeq.go ?_|refine oN fun _=>?_
 all_goals (conv=>whnf)
 exact ⟨_,by exact aH,hK m qs mo hm hq hmo hmb⟩
end Go.Proofs
end

section
namespace Go.Proofs
open Go Go.Vx Go.Gm
theorem lV4 (l:List Ety)(hl:∀x∈l,EtyOk x)(hlen:l.length<=65536)(p:Option Addr)(c b o:Nat)(w:World)(h1:Sl w bY1 3 l p l.length b o):
  Calls Tryz.prog 119 #[.slice p l.length c,.func (.func 238) #[] #[]] w fun e w'=>e=.returned (.bool false)/\St w [] [] w':=by
 refine enter (C:=Tryz.cx) (F:=kL7) (args:=[_,_]) Tryz.func119 rfl rfl rfl lV1 (St.start w []) ?_
 repeat' (conv=>whnf);first|(refine bQ0 182 ?_;refine VCall.inl (F:=kW6) Tryz.func182 rfl rfl rfl kR1 ?_)|refine VSeq.go ?_
 all_goals (conv=>whnf)
 refine VLoop.mk (α:=Nat) (fun j=>j<=l.length) (fun j=>[(1000000,.tuple #[]),(0,.slice p l.length c),(1,.func (.func 238) #[] #[]),(4,.int .i64 0),(7,.int .i64 (l.length:Int)),(8,.int .i64 (j:Int))])
  (fun _=>[]) (fun j=>l.length - j) 0 (qB _) aE aH ?_
 rintro j hj
 rcases qy j l.length with hlt|hge
 ·obtain ⟨x,hx⟩:=h1.get hlt
  have hv:=fun w'=>kB1 x (hl x (qz hx)) w'
  have hxv:sub (bY1 x) 0 3=some [.int .i64 x.key,.int .i64 x.mask,.int .i64 x.outs]:=rfl
  unfold bY1 at hv
  repeat' (conv=>whnf);first|(refine VNew.mk fun b4=>?_)|(refine VIx.is ?_;refine VIx.mk (h1.ptr qZ) qZ qZ ?_)|(refine VLd.is ?_;refine oC (h1.rd0 oU oR hx hxv) ?_)|(refine bQ0 238 ?_;refine VCall.inl (F:=lY8) Tryz.func238 rfl rfl rfl lT8 ?_)|(refine bQ0 121 ?_;(refine bQ4 (fun w' _=>hv w') ?_))|refine VSeq.go ?_|refine oY fun _=>?_|refine oL ?_|refine oA ?_
  all_goals (conv=>whnf)
  exact VNext.mk (j+1) qZ qZ aE aH
 have hjl:j=l.length:=by omega
 subst hjl
 repeat' (conv=>whnf);first|refine VSeq.go ?_|refine oN fun _=>?_
 all_goals (conv=>whnf)
 exact ⟨fun w' hw'=>⟨rfl,hw'.le .nil⟩⟩
theorem dB5 (s:Spc)(hs:SpcOk s)(tt:List ERow)(htn:(tt.length:Int)=s.wide*s.high)(pt:Option Addr)(ct bt ot:Nat)(w:World)(hts:Sl w erV 1 tt pt tt.length bt ot)(htt:∀z∈tt,∃b o,Sl w bY1 3 z.l z.p z.l.length b o)(htl:∀z∈tt,z.l.length<=1024/\∀e∈z.l,EtyOk e):
  Calls Tryz.prog 196 #[.agg (cK4 s).toArray,.slice pt tt.length ct] w fun e w'=>e=.returned (.int .i64 0)/\St w [] [] w':=by
 have ha:=cD7 hs
 have hw:=hs.wide
 have hhh:=hs.high
 have hrm2:=hs.room
 have hmc:=fun (w':World)=>bN3 s ⟨by unfold I64;omega,by unfold I64;omega,by unfold I64;omega⟩ w'
 rw [bN4.2 hs] at hmc
 refine enter (C:=Tryz.cx) (F:=lF0) (args:=[_,_]) Tryz.func196 rfl rfl rfl lS1 (St.start w []) ?_
 unfold cK4 at hmc ⊢
 obtain ⟨n,hn⟩:∃n:Int,s.wide*s.high=n:=⟨_,rfl⟩
 rw [hn] at ha htn
 repeat' (conv=>whnf);first|(refine VNew.mk fun b2=>?_)|(refine bQ0 115 ?_;(refine bQ4 (fun w' _=>hmc w') ?_))|(refine VAr.is ?_;refine VAr.mul hn qZ qZ ?_)|refine VSeq.go ?_|refine oN fun _=>?_|refine oL ?_
 all_goals (conv=>whnf)
 refine VLoop.mk (α:=Nat) (fun j=>j<=tt.length) (fun j=>[(1000000,.tuple #[]),(4,.int .i64 0),(21,.slice pt tt.length ct),(22,.int .i64 (tt.length:Int)),(23,.int .i64 (j:Int))])
  (fun _=>[]) (fun j=>tt.length - j) 0 (qB _) aE aH ?_
 rintro j hj
 rcases qy j tt.length with hlt|hge
 ·obtain ⟨z,hz⟩:=hts.get hlt
  obtain ⟨bz,oz,hz2⟩:=htt z (qz hz)
  obtain ⟨hzl,hze⟩:=htl z (qz hz)
  have hnb:=fun (w':World) (h1:Sl w' bY1 3 z.l z.p z.l.length bz oz)=>lV4 z.l hze qZ z.p z.c bz oz w' h1
  repeat' (conv=>whnf);first|(refine VIx.is ?_;refine VIx.mk (hts.ptr qZ) qZ qZ ?_)|(refine VLd.is ?_;refine oC (hts.rd0 oU oR hz rfl) ?_)|(refine bQ0 119 ?_;(refine bQ4 (fun w' hw'=>hnb w' (hz2.keep hw' oU)) ?_))|refine VSeq.go ?_|refine oY fun _=>?_|refine oN fun _=>?_|refine oA ?_
  all_goals (conv=>whnf)
  exact VNext.mk (j+1) qZ qZ aE aH
 have hjl:j=tt.length:=by omega
 subst hjl
 repeat' (conv=>whnf);first|refine VSeq.go ?_|refine oN fun _=>?_
 all_goals (conv=>whnf)
 exact ⟨fun w' hw'=>⟨rfl,hw'.le .nil⟩⟩
theorem dZ6 (s:Spc)(hs:SpcOk s)(pk:List Pkt)(hpk:pk.length<=1024)(pl:Option Addr)(cl bl ol:Nat)(w:World)(hpl:Sl w pkV 4 pk pl pk.length bl ol)(hsrc:∀u∈pk,(u.src:Int)<s.wide*s.high/\0<=u.key/\u.key<=65535):
  Calls Tryz.prog 197 #[.agg (cK4 s).toArray,.slice pl pk.length cl] w fun e w'=>e=.returned (.int .i64 0)/\St w [] [] w':=by
 have ha:=cD7 hs
 have hw:=hs.wide
 have hhh:=hs.high
 have hrm2:=hs.room
 refine enter (C:=Tryz.cx) (F:=lG9) (args:=[_,_]) Tryz.func197 rfl rfl rfl lS0 (St.start w []) ?_
 unfold cK4
 obtain ⟨n,hn⟩:∃n:Int,s.wide*s.high=n:=⟨_,rfl⟩
 rw [hn] at ha hsrc
 repeat' (conv=>whnf);first|(refine VNew.mk fun b2=>?_)|refine VSeq.go ?_|refine oN fun _=>?_
 all_goals (conv=>whnf)
 refine VLoop.mk (α:=Nat) (fun j=>j<=pk.length) (fun j=>[(1000000,.tuple #[]),(2,.pointer (some ⟨b2,0,none⟩)),(4,.int .i64 0),(10,.slice pl pk.length cl),(11,.int .i64 (pk.length:Int)),(12,.int .i64 (j:Int))])
  (fun _=>[.row b2 27 [.int .i64 s.wide,.int .i64 s.high,.int .i64 s.room]]) (fun j=>pk.length - j) 0 (qB _) aE aH ?_
 rintro j hj
 rcases qy j pk.length with hlt|hge
 ·obtain ⟨u,hu⟩:=hpl.get hlt
  have hu2:=hsrc u (qz hu)
  have hvu:sub (pkV u) 0 4=some [.int .i64 0,.int .i64 (u.src:Int),.int .i64 u.key,.int .i64 0]:=rfl
  repeat' (conv=>whnf);first|(refine VIx.is ?_;refine VIx.mk (hpl.ptr qZ) qZ qZ ?_)|(refine VLd.is ?_;refine oC (hpl.rd0 oU oR hu hvu) ?_)|(refine VNew.mk fun b6=>?_)|(refine VAr.is ?_;refine VAr.mul hn qZ qZ ?_)|refine VSeq.go ?_|refine oY fun _=>?_|refine oN fun _=>?_|refine oL ?_|refine oT ?_|refine oA ?_
  all_goals (conv=>whnf)
  all_goals first|exact VNext.mk (j+1) qZ qZ aE aH|(exfalso;omega)
 have hjl:j=pk.length:=by omega
 subst hjl
 repeat' (conv=>whnf);first|refine VSeq.go ?_|refine oN fun _=>?_
 all_goals (conv=>whnf)
 exact ⟨fun w' hw'=>⟨rfl,hw'.le .nil⟩⟩
end Go.Proofs
end

section
namespace Go.Proofs
open Go Go.Vx Go.Gm
def inL (co:Nat->Nat->Option Nat)(pk:List Pkt)(t r:Nat):List Nat:=cJ4 co r 4++(if t=0 then cF5 pk r pk.length else ([]:List Nat))
theorem gR4 {w0:World}{H R:HP}{K:Value->HP->Prop}(t1 t2 t3 t4 t7 t9 t10 t11 t12:Value)(hone:bK6 [t1,t2,t3,t4,t7,t9,t10,t11,t12]=true)(pk:List Pkt)(hpk:pk.length<=1024)(pl:Option Addr)(cl bl ol:Nat)(hpl:Sl w0 pkV 4 pk pl pk.length bl ol)
  (wb sb cb gs cs:Nat) (sm:List (Int×Value)) (t r:Nat) (hr:r<64) (ht:t<=10000) (hs0:t=0->0<pk.length->bZ4 sm 0=some (.slice (some ⟨gs,0,none⟩) pk.length cs)) (hs1:t≠0\/pk.length=0->bZ4 sm (t:Int)=none)
  (co:Nat->Nat->Option Nat) (cm:List (Value×Value)) (hcm:MapF dY7 fV1 fL1 cm (coF co)) (b3 b4 b5:Nat)
  (hT:Take H (.row b5 3 [.int .i64 (r:Int)]::.row b3 365 [.pointer (some ⟨wb,0,none⟩)]::.row b4 3 [.int .i64 (t:Int)]::.row wb 369 [t1,t2,t3,t4,.slice pl pk.length cl,.map (some sb),t7,.map (some cb),t9,t10,t11,t12]::.mapk cb cm::.map sb sm::[.vec (some ⟨gs,0,none⟩) pk.length cs 3 1 (bQ1 nV (List.range pk.length))]) R)
  (hK:∀p c cm',MapF dY7 fV1 fL1 cm' (coF (fun a b=>if a=r then none else co a b))->(0<(inL co pk t r).length->∃g,p=some ⟨g,0,none⟩)->K (.slice p (inL co pk t r).length c) (.vec p (inL co pk t r).length c 3 1 (bQ1 nV (inL co pk t r))::(.row b5 3 [.int .i64 (r:Int)]::.row b3 365 [.pointer (some ⟨wb,0,none⟩)]::.row b4 3 [.int .i64 (t:Int)]::.row wb 369 [t1,t2,t3,t4,.slice pl pk.length cl,.map (some sb),t7,.map (some cb),t9,t10,t11,t12]::.mapk cb cm'::.map sb sm::.vec (some ⟨gs,0,none⟩) pk.length cs 3 1 (bQ1 nV (List.range pk.length))::R))):
  VCall Tryz.cx.P w0 [] H 198 [.func (.func 240) #[] #[.pointer (some ⟨b5,0,none⟩),.pointer (some ⟨b3,0,none⟩),.pointer (some ⟨b4,0,none⟩)]] K:=by
 refine bB3 hT (bF5 ?_)
 refine VCall.inl (F:=lG8) Tryz.func198 rfl rfl rfl lR9 ?_
 repeat' (conv=>whnf);first|(refine bQ0 239 ?_;refine VCall.inl (F:=lY7) Tryz.func239 rfl rfl rfl lT7 ?_)|(refine VNew.mk fun b2=>?_)|(refine VRange.go (ms:=[]) rfl fun hokx hoky l d L hL=>?_)|refine VSeq.go ?_
 all_goals (conv=>whnf)
 refine fJ0 t1 t2 t3 t4 t7 t9 t10 t11 t12 hone pk hpk pl cl bl ol hpl wb sb cb gs cs sm t r hr ht hs0 hs1 co cm hcm l b3 b4 b5 (α:=List Nat×Option Addr×Nat) (fun A x=>x.1=A/\(0<A.length->∃g,x.2.1=some ⟨g,0,none⟩))
  (fun x=>L .ready none::.obj d (.deferred (some []))::.row b2 28 [.slice x.2.1 x.1.length x.2.2]::.vec x.2.1 x.1.length x.2.2 3 1 (bQ1 nV x.1)::R) ([],none,0) ⟨rfl,fun h=>absurd h oU⟩ ?_ ?_ ?_
 ·dsimp only
  refine HLe.trans ?_ (HLe.nilv (e:=3) (size:=1) (.refl _))
  exact aH
 ·rintro F A p ⟨A',q,c⟩ hA ⟨rfl,hq⟩
  dsimp only at hA hq ⊢
  refine VYield.go hL hokx hoky aT rfl ?_
  repeat' (conv=>whnf);first|(refine VBegin.is ?_;refine VBegin.mk aT ?_)|(refine VNew.mk fun bn=>?_)|(refine VAp.is ?_;refine VAp.own aT (.at_ (.vec aT rfl)) (by simp [Value.oneCell']) (by (try dsimp only);omega) (by simp only [maxLen];omega) fun p' c' hp'=>?_)|refine oL ?_|refine oT ?_
  all_goals (conv=>whnf)
  refine VRound.mk aT ?_
  refine ⟨rfl,(A'++[p],p',c'),⟨rfl,fun _=>hp' qZ⟩,?_⟩
  dsimp only
  rw [bQ7,qw]
  exact aH
 ·rintro ⟨A,q,c⟩ cm' hcm' ⟨rfl,hq⟩
  dsimp only at hq ⊢
  repeat' (conv=>whnf);first|(refine VEnd.is ?_;refine VEnd.mk aT oU ?_)|(refine VUn.is ?_;refine VUn.mk aT ?_)|refine VSeq.go ?_|refine oL ?_
  all_goals (conv=>whnf)
  exact ⟨_,by exact aH,hK q c cm' hcm' hq⟩
end Go.Proofs
end
