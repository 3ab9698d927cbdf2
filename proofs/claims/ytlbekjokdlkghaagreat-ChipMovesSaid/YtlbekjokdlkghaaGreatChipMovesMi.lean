import Derived.Test.YtlbekjokdlkghaaGreatChipMovesMz
import Derived.Test.YtlbekjokdlkghaaGreatChipMovesPg
import Derived.KernelRfl
import Derived.Test.YtlbekjokdlkghaaGreatChipMovesMr
set_option linter.unusedVariables false
set_option linter.unusedSimpArgs false
set_option maxHeartbeats 4000000
section
namespace Go.Gm
def mW4 (x:Nat):Nat:=((x>>>1)&&&6148914691236517205)+(x&&&6148914691236517205)
def mW3 (x:Nat):Nat:=((x>>>2)&&&3689348814741910323)+(x&&&3689348814741910323)
def mW2 (x:Nat):Nat:=((x>>>4)+x)&&&1085102592571150095
def mW1 (x:Nat):Nat:=x+(x>>>8)
def mW0 (x:Nat):Nat:=x+(x>>>16)
def mV9 (x:Nat):Nat:=x+(x>>>32)
def lK2 (x:Nat):Nat:=mV9 (mW0 (mW1 (mW2 (mW3 (mW4 x)))))&&&127
def mV8 (x:Nat):Bool:=Nat.beq x 1 || Nat.beq x 2 || Nat.beq x 4 || Nat.beq x 8 || Nat.beq x 16 || Nat.beq x 32 || Nat.beq x 64 || Nat.beq x 128 || Nat.beq x 256 || Nat.beq x 512 || Nat.beq x 1024 || Nat.beq x 2048 || Nat.beq x 4096 || Nat.beq x 8192 || Nat.beq x 16384 || Nat.beq x 32768
def lN1:Nat->Nat->(Nat->Bool)->Bool
 |0,lo,p=>p lo
 |k+1,lo,p=>lN1 k lo p&&lN1 k (lo+2 ^ k) p
theorem dP3 {p:Nat->Bool}:∀(k lo:Nat),lN1 k lo p=true->∀x,lo<=x->x<lo+2 ^ k->p x=true
 |0,lo,h,x,h1,h2=>by
  have:x=lo:=by simp at h2;omega
  subst this;exact h
 |k+1,lo,h,x,h1,h2=>by
  simp only [lN1,Qd] at h
  rw [Nat.pow_succ] at h2
  by_cases hx:x<lo+2 ^ k
  ·exact dP3 k lo h.1 x h1 hx
  ·exact dP3 k (lo+2 ^ k) h.2 x qZ qZ
theorem kC9:lN1 16 0 (fun x=>Bool.or (Bool.not (Nat.beq (lK2 x) 1)) (mV8 x))=true:=by kernel_rfl
theorem kC8 {x:Nat}(h:x<65536):lK2 x=1<->gQ8 (x:Int):=by
 constructor
 ·intro hp
  have:=dP3 16 0 kC9 x (qB _) (by simpa using h)
  rw [hp] at this
  simp only [Nat.beq_refl,Bool.not_true,Bool.false_or,mV8,Bool.or_eq_true,Nat.beq_eq] at this
  unfold gQ8
  rcases this with (((((((((((((((rfl|rfl)|rfl)|rfl)|rfl)|rfl)|rfl)|rfl)|rfl)|rfl)|rfl)|rfl)|rfl)|rfl)|rfl)|rfl)
  ·exact ⟨0,by omega,rfl⟩
  ·exact ⟨1,by omega,rfl⟩
  ·exact ⟨2,by omega,rfl⟩
  ·exact ⟨3,by omega,rfl⟩
  ·exact ⟨4,by omega,rfl⟩
  ·exact ⟨5,by omega,rfl⟩
  ·exact ⟨6,by omega,rfl⟩
  ·exact ⟨7,by omega,rfl⟩
  ·exact ⟨8,by omega,rfl⟩
  ·exact ⟨9,by omega,rfl⟩
  ·exact ⟨10,by omega,rfl⟩
  ·exact ⟨11,by omega,rfl⟩
  ·exact ⟨12,by omega,rfl⟩
  ·exact ⟨13,by omega,rfl⟩
  ·exact ⟨14,by omega,rfl⟩
  ·exact ⟨15,by omega,rfl⟩
 ·rintro ⟨i,hi,he⟩
  have hx:x=2 ^ i:=by omega
  subst hx
  have:i=0\/i=1\/i=2\/i=3\/i=4\/i=5\/i=6\/i=7\/i=8\/i=9\/i=10\/i=11\/i=12\/i=13\/i=14\/i=15:=by omega
  rcases this with rfl|rfl|rfl|rfl|rfl|rfl|rfl|rfl|rfl|rfl|rfl|rfl|rfl|rfl|rfl|rfl<;>decide
end Go.Gm
namespace Go.Proofs
open Go Go.Vx Go.Gm
theorem kF7 {a b:Nat}(ha:a<2 ^ 62)(hb:b<2 ^ 62):cP5 .xor .i64 (a:Int) (b:Int)=((a ^^^ b:Nat):Int):=by
 unfold cP5
 dsimp only
 have hbb:IntKind.i64.bits=64:=rfl
 have h1:(BitVec.ofInt IntKind.i64.bits (a:Int) ^^^ BitVec.ofInt IntKind.i64.bits (b:Int)).toNat=a ^^^ b:=by
  rw [BitVec.toNat_xor]
  have e1:(BitVec.ofInt IntKind.i64.bits (a:Int)).toNat=a:=by rw [BitVec.toNat_ofInt,hbb];omega
  have e2:(BitVec.ofInt IntKind.i64.bits (b:Int)).toNat=b:=by rw [BitVec.toNat_ofInt,hbb];omega
  rw [e1,e2]
 have h2:a ^^^ b<2 ^ 62:=Nat.xor_lt_two_pow ha hb
 rw [h1,wrap_i64 qZ qZ]
theorem gJ2 (x y:BitVec 64):(x&&&~~~y)+(x&&&y)=x:=by
 rw [BitVec.add_eq_or_of_and_eq_zero]
 ·ext i h
  simp only [BitVec.getElem_or,BitVec.getElem_and,BitVec.getElem_not]
  cases x[i]<;>cases y[i]<;>rfl
 ·ext i h
  simp only [BitVec.getElem_and,BitVec.getElem_not,BitVec.getElem_zero]
  cases x[i]<;>cases y[i]<;>rfl
theorem gJ1 (x y:BitVec 64):(x&&&~~~y).toNat=x.toNat - (x.toNat&&&y.toNat):=by
 have h:=gJ2 x y
 have h2:(x&&&~~~y)=x - (x&&&y):=by rw [BitVec.eq_sub_iff_add_eq,h]
 have h3:(x&&&y).toNat<=x.toNat:=by rw [BitVec.toNat_and];exact Nat.and_le_left
 rw [h2,BitVec.toNat_sub_of_le (by exact h3),BitVec.toNat_and]
theorem hN2 {a b:Nat}(ha:a<2 ^ 62)(hb:b<2 ^ 62):cP5 .andNot .i64 (a:Int) (b:Int)=((a - (a&&&b):Nat):Int):=by
 unfold cP5
 dsimp only
 have hbb:IntKind.i64.bits=64:=rfl
 have h1:(BitVec.ofInt IntKind.i64.bits (a:Int)&&&~~~BitVec.ofInt IntKind.i64.bits (b:Int)).toNat=a - (a&&&b):=by
  have:=gJ1 (BitVec.ofInt 64 (a:Int)) (BitVec.ofInt 64 (b:Int))
  have e1:(BitVec.ofInt 64 (a:Int)).toNat=a:=by rw [BitVec.toNat_ofInt];omega
  have e2:(BitVec.ofInt 64 (b:Int)).toNat=b:=by rw [BitVec.toNat_ofInt];omega
  rw [e1,e2] at this
  exact this
 rw [h1,wrap_i64 qZ qZ]
theorem _root_.Go.Vx.VBit.xor {a b:Int}{k:Int->Prop}(ha:0<=a/\a<=4611686018427387903)(hb:0<=b/\b<=4611686018427387903)(hk:k ((a.toNat ^^^ b.toNat:Nat):Int)):VBit .xor .i64 a b k:=by
 refine .mk ?_
 have:=kF7 (a:=a.toNat) (b:=b.toNat) qZ qZ
 rw [Ql ha.1,Ql hb.1] at this
 rw [this]
 exact hk
theorem _root_.Go.Vx.dP5 {a b:Int}{k:Int->Prop}(ha:0<=a/\a<=4611686018427387903)(hb:0<=b/\b<=4611686018427387903)(hk:k ((a.toNat - (a.toNat&&&b.toNat):Nat):Int)):VBit .andNot .i64 a b k:=by
 refine .mk ?_
 have:=hN2 (a:=a.toNat) (b:=b.toNat) qZ qZ
 rw [Ql ha.1,Ql hb.1] at this
 rw [this]
 exact hk
theorem dS5 {z:Nat}(h:z<2 ^ 64):IntKind.u64.wrap (z:Int)=(z:Int):=by
 have:IntKind.u64.wrap (z:Int)=((z:Int)%(2 ^ 64:Nat):Int):=rfl
 rw [this]
 omega
theorem _root_.Go.Vx.VAr.u64 {z:Nat}{k:Int->Prop}(h:z<2 ^ 64)(hk:k (z:Int)):VAr .u64 (z:Int) k:=.fits (dS5 h) hk
theorem _root_.Go.Vx.cC6 {z:Int}{k:Int->Prop}(h0:0<=z)(h:z<18446744073709551616)(hk:∀c:Nat,(c:Int)=z->k (c:Int)):VAr .u64 z k:=by
 have e:z=(z.toNat:Int):=by omega
 rw [e]
 refine .fits (dS5 qZ) (hk _ ?_)
 rw [<-e]
theorem hN3 {a b:Nat}(ha:a<2 ^ 64)(hb:b<2 ^ 64):cP5 .and .u64 (a:Int) (b:Int)=((a&&&b:Nat):Int):=by
 unfold cP5
 dsimp only
 have hbb:IntKind.u64.bits=64:=rfl
 have h1:(BitVec.ofInt IntKind.u64.bits (a:Int)&&&BitVec.ofInt IntKind.u64.bits (b:Int)).toNat=a&&&b:=by
  rw [BitVec.toNat_and]
  have e1:(BitVec.ofInt IntKind.u64.bits (a:Int)).toNat=a:=by rw [BitVec.toNat_ofInt,hbb];omega
  have e2:(BitVec.ofInt IntKind.u64.bits (b:Int)).toNat=b:=by rw [BitVec.toNat_ofInt,hbb];omega
  rw [e1,e2]
 have h2:a&&&b<=a:=Nat.and_le_left
 rw [h1,dS5 qZ]
theorem _root_.Go.Vx.cC5 {a b:Nat}{k:Int->Prop}(ha:a<2 ^ 64)(hb:b<2 ^ 64)(hk:∀c:Nat,c=a&&&b->c<=a->k (c:Int)):VBit .and .u64 (a:Int) (b:Int) k:=by
 refine .mk ?_
 rw [hN3 ha hb]
 exact hk _ rfl Nat.and_le_left
theorem _root_.Go.Vx.bM6 {a:Nat}(n:Nat)(hn:n<=64){k:Int->Prop}(hk:∀c:Nat,c=a>>>n->c<=a->k (c:Int)):VShR .u64 (a:Int) (n:Int) k:=by
 refine .mk qZ ?_
 have hbb:IntKind.u64.bits=64:=rfl
 have e:min (n:Int).toNat IntKind.u64.bits=n:=by rw [hbb];omega
 rw [e]
 have h2:(a:Int).fdiv (2 ^ n)=((a>>>n:Nat):Int):=by
  rw [Int.fdiv_eq_ediv_of_nonneg _ (Int.pow_nonneg qZ),Nat.shiftRight_eq_div_pow]
  rw [Int.natCast_ediv,Int.natCast_pow];rfl
 rw [h2]
 exact hk _ rfl (by rw [Nat.shiftRight_eq_div_pow];exact Nat.div_le_self ..)
theorem _root_.Go.Vx.VShR.is {kd:IntKind}{a b:Int}{k:Int->Prop}(hh:VShR kd a b k):VShR kd a b k:=hh
theorem fQ7 (x:Nat)(hx:x<65536)(w:World):Calls Tryz.prog 233 #[.int .u64 (x:Int)] w fun e w'=>∃n:Nat,e=.returned (.int .i64 (n:Int))/\(n=1<->gQ8 (x:Int))/\St w [] [] w':=by
 refine enter (C:=Tryz.cx) (F:=lG3) (args:=[_]) Tryz.func233 rfl rfl rfl lR3 (St.start w []) ?_
 repeat' (conv=>whnf);first|(refine bQ0 267 ?_;refine VCall.inl (F:=lY2) Tryz.func267 rfl rfl rfl lT2 ?_)|(refine VShR.is ?_;first|refine bM6 1 qZ fun c hc hle=>?_|refine bM6 2 qZ fun c hc hle=>?_|refine bM6 4 qZ fun c hc hle=>?_|refine bM6 8 qZ fun c hc hle=>?_|refine bM6 16 qZ fun c hc hle=>?_|refine bM6 32 qZ fun c hc hle=>?_)|(refine VBit.is ?_;first|refine cC5 (b:=6148914691236517205) qZ qZ fun c hc hle=>?_|refine cC5 (b:=3689348814741910323) qZ qZ fun c hc hle=>?_|refine cC5 (b:=1085102592571150095) qZ qZ fun c hc hle=>?_|refine VBit.and qZ qZ ?_)|(refine VAr.is ?_;refine cC6 qZ qZ fun c hc=>?_)|refine VSeq.go ?_|refine oA ?_
 all_goals (conv=>whnf)
 rename_i x1 p1 q1 x2 p2 q2 x3 p3 q3 s1 t1 x4 p4 q4 x5 p5 q5 x6 p6 q6 s2 t2 x7 p7 q7 s3 t3 x8 p8 q8 x9 p9 q9 s4 t4 x10 p10 q10 s5 t5 x11 p11
 have r1:s1=x2+x3:=by omega
 have r2:s2=x5+x6:=by omega
 have r3:s3=x7+s2:=by omega
 have r4:s4=x8+x9:=by omega
 have r5:s5=s4+x10:=by omega
 have r6:c=s5+x11:=by omega
 have e:(Int.toNat (c:Int)&&&Int.toNat 127)=lK2 x:=by
  rw [jf]
  have e127:Int.toNat 127=127:=rfl
  rw [e127]
  unfold lK2 mV9 mW0 mW1 mW2 mW3 mW4
  rw [r6,p11,r5,p10,r4,p9,p8,r3,p7,r2,p6,p5,p4,r1,p3,p2,p1]
 exact ⟨fun w' hw'=>⟨lK2 x,by rw [<-e];rfl,kC8 hx,hw'.le .nil⟩⟩
end Go.Proofs
end

section
namespace Go.Proofs
open Go Go.Vx Go.Gm
def bY1 (x:Ety):List Value:=[.int .i64 x.key,.int .i64 x.mask,.int .i64 x.outs]
theorem fZ6 (l:List Ety)(hl:∀x∈l,EtyOk x)(hlen:l.length<=65536)(key:Int)(hk:0<=key/\key<=65535)(p:Option Addr)(c b o:Nat)(w:World)(h1:Sl w bY1 3 l p l.length b o):
  Calls Tryz.prog 123 #[.slice p l.length c,.int .i64 key] w fun e w'=>e=.returned (.tuple #[.int .i64 ((bH0 l key).getD 0),.bool (bH0 l key).isSome])/\St w [] [] w':=by
 refine enter (C:=Tryz.cx) (F:=lP9) (args:=[_,_]) Tryz.func123 rfl rfl rfl mZ0 (St.start w []) ?_
 repeat' (conv=>whnf);first|(refine VNew.mk fun b3=>?_)|(refine bQ0 182 ?_;refine VCall.inl (F:=kW6) Tryz.func182 rfl rfl rfl kR1 ?_)|refine VSeq.go ?_
 all_goals (conv=>whnf)
 refine VLoop.mk (α:=Nat) (fun j=>j<=l.length/\∀y∈l.take j,hB4 key y=false) (fun j=>[(1000000,.tuple #[]),(0,.slice p l.length c),(1,.func (.func 183) #[] #[.pointer (some ⟨b3,0,none⟩)]),(4,.int .i64 0),(7,.int .i64 (l.length:Int)),(8,.int .i64 (j:Int))])
  (fun _=>[.row b3 3 [.int .i64 key]]) (fun j=>l.length - j) 0 ⟨qB _,by simp⟩ aE aH ?_
 rintro j ⟨hj,hb⟩
 rcases qy j l.length with hlt|hge
 ·obtain ⟨x,hx⟩:=h1.get hlt
  have hxo:=hl x (qz hx)
  have hxk:=hxo.key
  have hxm:=hxo.mask
  have hfd:=fun h=>kW9 (key:=key) hx h hb
  have hnx:hB4 key x=false->∀y∈l.take (j+1),hB4 key y=false:=fun h y hy=>by
   rw [qi,hx] at hy
   rcases qH.1 hy with hy|hy
   ·exact hb y hy
   ·simp only [qW,qt] at hy
    rw [hy];exact h
  have hiff:hB4 key x=true<->fM7 key x.mask=x.key:=by unfold hB4;rw [jy]
  have hbd:=lX5 key x.mask
  obtain ⟨bd,hbdv⟩:=gX (fM7 key x.mask)
  have hbdv2:((key.toNat&&&x.mask.toNat:Nat):Int)=bd:=hbdv
  rw [hbdv] at hiff hbd
  have hxv:sub (bY1 x) 0 3=some [.int .i64 x.key,.int .i64 x.mask,.int .i64 x.outs]:=rfl
  have hxo2:sub (bY1 x) 2 1=some [.int .i64 x.outs]:=rfl
  clear hl hb hxo
  repeat' (conv=>whnf);first|(refine VNew.mk fun b4=>?_)|(refine VIx.is ?_;refine VIx.mk (h1.ptr qZ) qZ qZ ?_)|(refine VLd.is ?_;refine oC (h1.rd0 oU oR hx hxv) ?_)|(refine VLd.is ?_;refine oC (h1.rd (o:=2) (s:=1) oU oR hx hxo2) ?_)|(refine bQ0 183 ?_;refine VCall.inl (F:=lH1) Tryz.func183 rfl rfl rfl lL2 ?_)|(refine VBit.is ?_;refine VBit.and qZ qZ ?_;rw [hbdv2])|refine VSeq.go ?_|refine oY fun _=>?_|refine oN fun _=>?_|refine oS (fun _=>?_) fun _=>?_|refine oL ?_|refine oA ?_
  all_goals (conv=>whnf)
  ·rw [hfd (hiff.2 qZ)]
   exact ⟨fun w' hw'=>⟨rfl,hw'.le .nil⟩⟩
  ·refine VNext.mk (j+1) ⟨by omega,hnx ?_⟩ qZ aE aH
   cases hh:hB4 key x with
   |false=>rfl
   |true=>exact absurd (hiff.1 hh) qZ
 have hjl:j=l.length:=by omega
 subst hjl
 rw [Qk] at hb
 rw [gT0 hb]
 repeat' (conv=>whnf);first|refine VSeq.go ?_|refine oY fun _=>?_|refine oN fun _=>?_
 all_goals (conv=>whnf)
 exact ⟨fun w' hw'=>⟨rfl,hw'.le .nil⟩⟩
theorem hF3 (a b:Int):((a.toNat - (a.toNat&&&b.toNat):Nat):Int)=bT1 a b:=rfl
theorem kV2 (x y:Ety)(hx:EtyOk x)(hy:EtyOk y)(w:World):
  Calls Tryz.prog 184 #[.agg (bY1 x).toArray,.agg (bY1 y).toArray] w fun e w'=>e=.returned (.tuple #[.agg (bY1 ((fX6 x y).getD ⟨0,0,0⟩)).toArray,.bool (fX6 x y).isSome])/\St w [] [] w':=by
 have hxk:=hx.key
 have hxm:=hx.mask
 have hyk:=hy.key
 have hym:=hy.mask
 have hd:=lX3 hxk hyk
 have hl1:=dK1 x.key (gZ3 x.key y.key)
 have hl2:=dK1 x.mask (gZ3 x.key y.key)
 have hjE:fX6 x y=if x.mask≠y.mask\/x.outs≠y.outs\/¬gQ8 (gZ3 x.key y.key) then none else some ⟨bT1 x.key (gZ3 x.key y.key),bT1 x.mask (gZ3 x.key y.key),x.outs⟩:=rfl
 obtain ⟨d,hdd⟩:=gX (gZ3 x.key y.key)
 have hdn:((x.key.toNat ^^^ y.key.toNat:Nat):Int)=d:=hdd
 rw [hdd] at hd hl1 hl2 hjE
 have hln1:((x.key.toNat - (x.key.toNat&&&d.toNat):Nat):Int)=bT1 x.key d:=rfl
 have hln2:((x.mask.toNat - (x.mask.toNat&&&d.toNat):Nat):Int)=bT1 x.mask d:=rfl
 obtain ⟨l1,hl1d⟩:=gX (bT1 x.key d)
 obtain ⟨l2,hl2d⟩:=gX (bT1 x.mask d)
 rw [hl1d] at hln1 hl1 hjE
 rw [hl2d] at hln2 hl2 hjE
 obtain ⟨dn,hdnn⟩:∃dn:Nat,d=(dn:Int):=⟨d.toNat,by omega⟩
 subst hdnn
 have hoc:=fun w'=>fQ7 dn qZ w'
 unfold bY1
 clear hdd hl1d hl2d
 refine enter (C:=Tryz.cx) (F:=lH0) (args:=[_,_]) Tryz.func184 rfl rfl rfl lL1 (St.start w []) ?_
 repeat' (conv=>whnf);first|(refine VNew.mk fun b4=>?_)|(refine VBit.is ?_;first|(refine VBit.xor qZ qZ ?_;rw [hdn])|(refine dP5 qZ qZ ?_;first|rw [hln1]|rw [hln2]))|(refine bQ0 233 ?_;(refine bQ2 (fun w' _=>hoc w') ?_;rintro n hn))|(refine VAr.is ?_;refine cC6 qZ qZ fun c hc=>?_;have hcd:=Int.ofNat.inj hc;clear hc;subst hcd)|refine VSeq.go ?_|refine oS (fun _=>?_) fun _=>?_|refine oL ?_|refine oT ?_
 all_goals (conv=>whnf)
 all_goals first
  |(rw [hjE,jw (.inl qZ)]
    exact ⟨fun w' hw'=>⟨rfl,hw'.le .nil⟩⟩)
  |(rw [hjE,jw (.inr (.inl qZ))]
    exact ⟨fun w' hw'=>⟨rfl,hw'.le .nil⟩⟩)
  |(rw [hjE,jw (.inr (.inr fun h=>absurd (hn.2 h) qZ))]
    exact ⟨fun w' hw'=>⟨rfl,hw'.le .nil⟩⟩)
  |(rw [hjE,jk (by
    rintro (h|h|h)
    ·omega
    ·omega
    ·exact h (hn.1 qZ))]
    exact ⟨fun w' hw'=>⟨rfl,hw'.le .nil⟩⟩)
theorem kB1 (x:Ety)(hx:EtyOk x)(w:World):Calls Tryz.prog 121 #[.agg (bY1 x).toArray] w fun e w'=>e=.returned (.bool true)/\St w [] [] w':=by
 have hxk:=hx.key
 have hxm:=hx.mask
 have hxo:=hx.outs
 have hb:bT1 x.key x.mask=0:=by
  have:=hx.fits
  unfold bT1 fM7 at*
  omega
 have hln1:((x.key.toNat - (x.key.toNat&&&x.mask.toNat):Nat):Int)=bT1 x.key x.mask:=rfl
 unfold bY1
 refine enter (C:=Tryz.cx) (F:=lD1) (args:=[_]) Tryz.func121 rfl rfl rfl mZ2 (St.start w []) ?_
 repeat' (conv=>whnf);first|(refine VNew.mk fun b4=>?_)|(refine VBit.is ?_;(refine dP5 qZ qZ ?_;rw [hln1,hb]))|refine VSeq.go ?_|refine oY fun _=>?_|refine oL ?_
 all_goals (conv=>whnf)
 all_goals first
  |exact ⟨fun w' hw'=>⟨rfl,hw'.le .nil⟩⟩
  |(exfalso;omega)
theorem lV6 (l:List Ety)(hl:∀x∈l,EtyOk x)(hlen:l.length<=65536)(p:Option Addr)(c b o:Nat)(w:World)(h1:Sl w bY1 3 l p l.length b o):
  Calls Tryz.prog 119 #[.slice p l.length c,.func (.func 120) #[] #[]] w fun e w'=>e=.returned (.bool false)/\St w [] [] w':=by
 refine enter (C:=Tryz.cx) (F:=kL7) (args:=[_,_]) Tryz.func119 rfl rfl rfl lV1 (St.start w []) ?_
 repeat' (conv=>whnf);first|(refine bQ0 182 ?_;refine VCall.inl (F:=kW6) Tryz.func182 rfl rfl rfl kR1 ?_)|refine VSeq.go ?_
 all_goals (conv=>whnf)
 refine VLoop.mk (α:=Nat) (fun j=>j<=l.length) (fun j=>[(1000000,.tuple #[]),(0,.slice p l.length c),(1,.func (.func 120) #[] #[]),(4,.int .i64 0),(7,.int .i64 (l.length:Int)),(8,.int .i64 (j:Int))])
  (fun _=>[]) (fun j=>l.length - j) 0 (qB _) aE aH ?_
 rintro j hj
 rcases qy j l.length with hlt|hge
 ·obtain ⟨x,hx⟩:=h1.get hlt
  have hv:=fun w'=>kB1 x (hl x (qz hx)) w'
  have hxv:sub (bY1 x) 0 3=some [.int .i64 x.key,.int .i64 x.mask,.int .i64 x.outs]:=rfl
  unfold bY1 at hv
  repeat' (conv=>whnf);first|(refine VNew.mk fun b4=>?_)|(refine VIx.is ?_;refine VIx.mk (h1.ptr qZ) qZ qZ ?_)|(refine VLd.is ?_;refine oC (h1.rd0 oU oR hx hxv) ?_)|(refine bQ0 120 ?_;refine VCall.inl (F:=lD2) Tryz.func120 rfl rfl rfl mZ3 ?_)|(refine bQ0 121 ?_;(refine bQ4 (fun w' _=>hv w') ?_))|refine VSeq.go ?_|refine oY fun _=>?_|refine oL ?_|refine oA ?_
  all_goals (conv=>whnf)
  exact VNext.mk (j+1) qZ qZ aE aH
 have hjl:j=l.length:=by omega
 subst hjl
 repeat' (conv=>whnf);first|refine VSeq.go ?_|refine oY fun _=>?_|refine oN fun _=>?_
 all_goals (conv=>whnf)
 exact ⟨fun w' hw'=>⟨rfl,hw'.le .nil⟩⟩
theorem lV5 (l:List Int)(hl:∀x∈l,0<=x/\x<=65535)(hlen:l.length<=65536)(p:Option Addr)(c b o:Nat)(w:World)(h1:Sl w bQ6 1 l p l.length b o):
  Calls Tryz.prog 51 #[.slice p l.length c,.func (.func 122) #[] #[]] w fun e w'=>e=.returned (.bool false)/\St w [] [] w':=by
 refine enter (C:=Tryz.cx) (F:=lY1) (args:=[_,_]) Tryz.func51 rfl rfl rfl lN9 (St.start w []) ?_
 repeat' (conv=>whnf);first|(refine bQ0 106 ?_;refine VCall.inl (F:=hB7) Tryz.func106 rfl rfl rfl kZ6 ?_)|refine VSeq.go ?_
 all_goals (conv=>whnf)
 refine VLoop.mk (α:=Nat) (fun j=>j<=l.length) (fun j=>[(1000000,.tuple #[]),(0,.slice p l.length c),(1,.func (.func 122) #[] #[]),(4,.int .i64 0),(7,.int .i64 (l.length:Int)),(8,.int .i64 (j:Int))])
  (fun _=>[]) (fun j=>l.length - j) 0 (qB _) aE aH ?_
 rintro j hj
 rcases qy j l.length with hlt|hge
 ·obtain ⟨x,hx⟩:=h1.get hlt
  have hv:=hl x (qz hx)
  repeat' (conv=>whnf);first|(refine VIx.is ?_;refine VIx.mk (h1.ptr qZ) qZ qZ ?_)|(refine VLd.is ?_;refine oC (h1.rd0 oU oR hx rfl) ?_)|(refine bQ0 122 ?_;refine VCall.inl (F:=lD0) Tryz.func122 rfl rfl rfl mZ1 ?_)|refine VSeq.go ?_|refine oY fun _=>?_|refine oN fun _=>?_|refine oA ?_
  all_goals (conv=>whnf)
  exact VNext.mk (j+1) qZ qZ aE aH
 have hjl:j=l.length:=by omega
 subst hjl
 repeat' (conv=>whnf);first|refine VSeq.go ?_|refine oY fun _=>?_|refine oN fun _=>?_
 all_goals (conv=>whnf)
 exact ⟨fun w' hw'=>⟨rfl,hw'.le .nil⟩⟩
end Go.Proofs
end

section
namespace Go.Proofs
open Go Go.Vx Go.Gm
theorem _root_.Go.Vx.VSl.off {b o size l h c:Nat}{li hi ci:Int}{k:Option Addr->Nat->Nat->Prop}(e1:li=(l:Int))(e2:hi=(h:Int))(e3:ci=(c:Int))(h1:l<=h)(h2:h<=c)
  (hk:∀off,(l<c->off=o+l*size)->k (some ⟨b,off,none⟩) (h - l) (c - l)):VSl (some ⟨b,o,none⟩) size li hi ci k:=by
 subst e1;subst e2;subst e3
 refine .mk (by omega) (by omega) (by omega) fun q hq1 hq2=>?_
 rw [jf,jf,jf]
 by_cases hc:l<c
 ·have:=hq1 (by omega)
  rw [this,jf,qV,cZ8]
  exact hk _ fun _=>rfl
 ·have:=hq2 (by omega)
  rw [this]
  exact hk _ fun h=>absurd h hc
theorem kY1 (x y:Ety):upd (bY1 x) 0 (bY1 y)=some (bY1 y):=rfl
theorem dX3 (l:List Ety)(p:Option Addr)(c b o:Nat)(w:World)(h1:Sl w bY1 3 l p l.length b o)(hb:l.length<=65536):
  Calls Tryz.prog 125 #[.slice p l.length c] w fun e w'=>∃x:Option Addr×Nat,e=.returned (.slice x.1 l.length x.2)/\(0<l.length->∃g,x.1=some ⟨g,0,none⟩)/\St w [] [.vec x.1 l.length x.2 180 3 (bQ1 bY1 l)] w':=by
 have hs:=h1.src (w0:=w) (M:=[]) (H:=[]) (by simp) (fun _=>rfl)
 clear hs
 rcases h1.cases with ⟨a,h2⟩|⟨h2,h3⟩
 ·subst h2
  refine enter (C:=Tryz.cx) (F:=kL6) (args:=[_]) Tryz.func125 rfl rfl rfl lV0 (St.start w []) ?_
  repeat' (conv=>whnf);first|(refine VAp.is ?_;refine VAp.own aT (h1.src (by simp) (fun _=>rfl)) (bZ5 (by simp [bY1,Value.oneCell'])) ((by (try dsimp only);omega)) (by simp only [maxLen];omega) fun p' cap' hp'=>?_)|(refine VSeq.go ?_)|(refine VNew.mk fun _=>?_)
  all_goals (conv=>whnf)
  refine ⟨fun w' hw'=>⟨(p',cap'),by simp [cV1],fun h=>hp' (by omega),?_⟩⟩
  rw [Qo] at hw'
  exact hw'.le aH
 ·subst h2
  have hl:l=[]:=qF h3
  subst hl
  refine enter (C:=Tryz.cx) (F:=kL6) (args:=[_]) Tryz.func125 rfl rfl rfl lV0 (St.start w []) ?_
  repeat' (conv=>whnf);first|(refine VSeq.go ?_)|(refine VB.is ?_;refine bZ2 (by omega) fun _=>?_)
  all_goals (conv=>whnf)
  exact ⟨fun w' hw'=>⟨(none,0),rfl,fun h=>absurd h (by simp),hw'.le (.nilv .nil)⟩⟩
theorem gX9 {w0:World}{H:HP}{K:Value->HP->Prop}(gq cq:Nat)(L:List Ety)(hnb:L.length<=65536)(j:Nat)(hj:j<L.length)
  (hK0:K (.slice (some ⟨gq,0,none⟩) (L.length - 1) cq) (.vec (some ⟨gq,0,none⟩) (L.length - 1) cq 180 3 (bQ1 bY1 (L.eraseIdx j))::H)):
  VCall Tryz.cx.P w0 [] (.vec (some ⟨gq,0,none⟩) L.length cq 180 3 (bQ1 bY1 L)::H) 185 [.slice (some ⟨gq,0,none⟩) L.length cq,.int .i64 (j:Int),.int .i64 ((j:Int)+1)] K:=by
 refine VCall.hle ?_
 refine VCall.inl (F:=lF9) Tryz.func185 rfl rfl rfl lL0 ?_
 have e3:∀x:Ety,(bY1 x).length=3:=fun _=>rfl
 have hfl:(bQ1 bY1 L).length=L.length*3:=bX9 e3
 obtain ⟨news,hnews⟩:=gX (((bQ1 bY1 L).drop ((j+1)*3)).take ((L.length - (j+1))*3))
 have hnews2:news=bQ1 bY1 (L.drop (j+1)):=by
  rw [<-hnews]
  have e1:bQ1 bY1 L=bQ1 bY1 (L.take (j+1))++bQ1 bY1 (L.drop (j+1)):=by rw [<-bQ7,QJ]
  have e2:(bQ1 bY1 (L.take (j+1))).length=(j+1)*3:=by rw [bX9 e3,qh];congr 1;omega
  rw [e1,<-e2,List.drop_left]
  exact qe (by rw [bX9 e3,Qs];omega)
 have hnl:news.length=(L.length - (j+1))*3:=by rw [hnews2,bX9 e3,Qs]
 have hone:∀v∈news,v.oneCell'=true:=by
  rw [hnews2]
  exact bZ5 (by simp [bY1,Value.oneCell'])
 have hM:(bQ1 bY1 L).take (j*3)++news++(bQ1 bY1 L).drop (j*3+(L.length - (j+1))*3)=bQ1 bY1 (L.take j++L.drop (j+1)++L.drop (L.length - 1)):=by
  have e1:bQ1 bY1 L=bQ1 bY1 (L.take j)++bQ1 bY1 (L.drop j):=by rw [<-bQ7,QJ]
  have e2:(bQ1 bY1 (L.take j)).length=j*3:=by rw [bX9 e3,qh];congr 1;omega
  have e4:bQ1 bY1 L=bQ1 bY1 (L.take (L.length - 1))++bQ1 bY1 (L.drop (L.length - 1)):=by rw [<-bQ7,QJ]
  have e5:(bQ1 bY1 (L.take (L.length - 1))).length=j*3+(L.length - (j+1))*3:=by rw [bX9 e3,qh];omega
  have e6:(bQ1 bY1 L).take (j*3)=bQ1 bY1 (L.take j):=by rw [e1,<-e2,List.take_left]
  have e7:(bQ1 bY1 L).drop (j*3+(L.length - (j+1))*3)=bQ1 bY1 (L.drop (L.length - 1)):=by
   rw [e4,<-e5,List.drop_left]
  rw [e6,e7,hnews2,bQ7,bQ7]
 obtain ⟨M,hMd⟩:=gX (L.take j++L.drop (j+1)++L.drop (L.length - 1))
 have hMl:M.length=(L.length - 1)+1:=by
  rw [<-hMd]
  simp only [qw,qh,Qs];omega
 have hMt:M.take (L.length - 1)=L.eraseIdx j:=by
  rw [<-hMd,List.eraseIdx_eq_take_drop_succ,List.take_append_of_le_length (by simp only [qw,qh,Qs];omega),qe (by simp only [qw,qh,Qs];omega)]
 rw [hMd] at hM
 have hut:=gK7 (f:=bY1) (k:=3) e3 (l:=M) (i:=L.length - 1) (n:=1) ⟨0,0,0⟩ hMl
 have hnews':∀off,(j+1<cq->off=0+(j+1)*3)->L.length<=cq->((bQ1 bY1 L).drop off).take ((L.length - (j+1))*3)=news:=fun off h hc=>by
  by_cases hlt:j+1<cq
  ·rw [h hlt,Qo];exact hnews
  ·have:L.length - (j+1)=0:=by omega
   rw [this] at hnl ⊢
   rw [Nat.zero_mul] at hnl ⊢
   rw [qF hnl];rfl
 have hjn:j+(L.length - (j+1))=L.length - 1:=by omega
 repeat' (conv=>whnf);first|(refine VSeq.is ?_;refine bF1 2 rfl ?_;refine VSeq.learn (at_:=2) (fun w hw=>bB9 (hw (.vec (some ⟨gq,0,none⟩) L.length cq 180 3 (bQ1 bY1 L)) (by simp))) (fun hfc=>?_);have hcq:=hfc.1;clear hfc)|(refine VSl3.is ?_;refine VSl3.mk (by omega) (VSl.mk (by omega) (by omega) (by omega) fun q2 hq2 hq3=>?_))|(refine VSl.is ?_;refine VSl.is ?_;first|refine cG9 (m:=j) (cap:=cq) (by omega) ?_|(refine VSl.off (l:=j+1) (h:=L.length) (c:=cq) (by omega) rfl rfl (by omega) (by omega) fun off hoff=>?_)|(refine VSl.off (l:=L.length - 1) (h:=L.length) (c:=cq) (by omega) (by omega) rfl (by omega) (by omega) fun off hoff=>?_;have hoe:=hoff (by omega);subst hoe;have hone1:L.length - (L.length - 1)=1:=(by omega);rw [hone1]))|(refine VAp.is ?_;refine VAp.is ?_;refine VAp.self aT rfl rfl (hnews' _ hoff hcq) hnl (by omega) hone ?_;rw [hM,hjn])|(refine VCl.is ?_;refine VCl.is ?_;refine VCl.part (b:=gq) rfl (by omega) ?_)|(refine VSt.is ?_;refine VSt.is ?_;refine VSt.cast (off':=(L.length - 1)*3) (by first|omega|(dsimp only;omega)|rfl) (VSt.vec aT hut rfl ?_))|(refine VSeq.go ?_)|(refine VB.is ?_;refine bZ2 (by omega) fun _=>?_)|(refine VHs.mk _ (.refl _) ?_)
 all_goals (conv=>whnf)
 have hlX:(M.take (L.length - 1)++List.replicate 1 (⟨0,0,0⟩:Ety)).length=L.length:=by rw [qw,qh,Qn];omega
 have htX:(M.take (L.length - 1)++List.replicate 1 (⟨0,0,0⟩:Ety)).take (L.length - 1)=L.eraseIdx j:=by
  rw [List.take_append_of_le_length (by rw [qh];omega),qe (by rw [qh];omega),hMt]
 refine ⟨_,?_,hK0⟩
 rw [<-htX]
 exact HLe.shr (l:=M.take (L.length - 1)++List.replicate 1 (⟨0,0,0⟩:Ety)) aT (fun _=>rfl) hlX (by omega) (HLe.refl _)
def cK0 (want:List Ety)(keys:List Int):List Int:=keys.map fun k=>(bH0 want k).getD 0
theorem hG7 (want t:List Ety)(hw:∀x∈want,EtyOk x)(ht:∀x∈t,EtyOk x)(htl:t.length<=65536)(keys:List Int)(hk:∀k∈keys,0<=k/\k<=65535)(hkl:keys.length<=65536)(b3 b6:Nat)(pk:Option Addr)(ck bk ok:Nat)(pw:Option Addr)(cw bw ow:Nat)(pt:Option Addr)(ct bt ot:Nat)(w:World)
  (h3:Cells w b3 0 [.slice pk keys.length ck]) (h6:Cells w b6 0 [.slice pw keys.length cw]) (hsk:Sl w bQ6 1 keys pk keys.length bk ok) (hsw:Sl w bQ6 1 (cK0 want keys) pw keys.length bw ow) (hst:Sl w bY1 3 t pt t.length bt ot):
  Calls Tryz.prog 124 #[.slice pt t.length ct,.pointer (some ⟨b3,0,none⟩),.pointer (some ⟨b6,0,none⟩)] w fun e w'=>e=.returned (.bool (cK6 want t keys))/\St w [] [] w':=by
 have hf:=fun k hk w' h=>fZ6 t ht htl k hk pt ct bt ot w' h
 refine enter (C:=Tryz.cx) (F:=lP8) (args:=[_,_,_]) Tryz.func124 rfl rfl rfl mX9 (St.start w []) ?_
 have s1:sub [Value.slice pk keys.length ck] 0 1=some [.slice pk keys.length ck]:=rfl
 have s2:sub [Value.slice pw keys.length cw] 0 1=some [.slice pw keys.length cw]:=rfl
 repeat' (conv=>whnf);first|(refine VLd.is ?_;refine oC (.old (h3.part s1) rfl (by simp)) ?_)|(refine VSeq.go ?_)
 all_goals (conv=>whnf)
 refine VLoop.mk (α:=Nat) (fun j=>j<=keys.length/\∀k∈keys.take j,bH0 want k=bH0 t k) (fun j=>[(1000000,.tuple #[]),(0,.slice pt t.length ct),(2,.pointer (some ⟨b6,0,none⟩)),(4,.bool false),(9,.slice pk keys.length ck),(10,.int .i64 (keys.length:Int)),(11,.int .i64 (j:Int))])
  (fun _=>[]) (fun j=>keys.length - j) 0 ⟨qB _,by simp⟩ aE aH ?_
 rintro j ⟨hj,hb⟩
 rcases qy j keys.length with hlt|hge
 ·obtain ⟨k,hkj⟩:=hsk.get hlt
  have hkm:=qz hkj
  have hkr:=hk k hkm
  have hwj:(cK0 want keys)[j]? =some ((bH0 want k).getD 0):=by unfold cK0;rw [qj,hkj];rfl
  have hf:=fun w' h=>hf k hkr w' h
  have hpos:=hP4 hw ht k
  obtain ⟨a,ha⟩:=gX ((bH0 want k).getD 0)
  obtain ⟨d,hd⟩:=gX ((bH0 t k).getD 0)
  rw [ha] at hwj
  rw [ha,hd] at hpos
  rw [hd] at hf
  repeat' (conv=>whnf);first|(refine VIx.is ?_;refine VIx.mk (hsk.ptr (by omega)) (by omega) (by omega) ?_)|(refine VLd.is ?_;refine oC (hsk.rd0 (by simp) (fun _=>rfl) hkj rfl) ?_)|(refine bQ0 123 ?_;(refine bQ4 (fun w' hw'=>hf w' (hst.keep hw' (by simp))) ?_))|(refine VLd.is ?_;refine oC (.old (h6.part s2) rfl (by simp)) ?_)|(refine VIx.is ?_;refine VIx.mk (hsw.ptr (by omega)) (by omega) (by omega) ?_)|(refine VLd.is ?_;refine oC (hsw.rd0 (by simp) (fun _=>rfl) hwj rfl) ?_)|(refine VSeq.go ?_)|(refine VB.is ?_;refine bX5 (by omega) fun _=>?_)|(refine VB.split (fun _=>?_) (fun _=>?_))|(refine VAr.is ?_;refine oA ?_)
  all_goals (conv=>whnf)
  ·have hne:cK6 want t keys=false:=by
    cases hs:cK6 want t keys with
    |false=>rfl
    |true=>
     unfold cK6 at hs
     rw [List.all_eq_true] at hs
     have:=hpos.2 (of_decide_eq_true (hs k hkm))
     omega
   rw [hne]
   exact ⟨fun w' hw'=>⟨rfl,hw'.le .nil⟩⟩
  ·refine VNext.mk (j+1) ⟨by omega,fun q hq=>?_⟩ (by omega) aE aH
   rw [qi,hkj] at hq
   rcases qH.1 hq with hq|hq
   ·exact hb q hq
   ·simp only [qW,qt] at hq
    rw [hq]
    exact hpos.1 (by omega)
 have hjl:j=keys.length:=by omega
 subst hjl
 rw [Qk] at hb
 have hall:cK6 want t keys=true:=by
  unfold cK6
  rw [List.all_eq_true]
  exact fun k hk=>decide_eq_true (hb k hk)
 rw [hall]
 repeat' (conv=>whnf);first|(refine VSeq.go ?_)|(refine VB.is ?_;refine bZ2 (by omega) fun _=>?_)
 all_goals (conv=>whnf)
 exact ⟨fun w' hw'=>⟨rfl,hw'.le .nil⟩⟩
end Go.Proofs
end
