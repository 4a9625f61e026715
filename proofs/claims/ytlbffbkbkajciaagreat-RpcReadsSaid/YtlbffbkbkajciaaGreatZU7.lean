/- Mini: Needed by rpcReads_walk, part 7: texts put together by shake.py; no condition. -/
import Derived.Test.YtlbffbkbkajciaaGreatZU5
import Derived.Test.YtlbffbkbkajciaaGreatZU6
import Derived.Test.YtlbffbkbkajciaaGreatZU1
import Derived.Deep.AppendLies
import Derived.Deep.RegionLaw
import Derived.Laws.MakeOwn
import Derived.Lib.ConvBytes
import Derived.Laws.AppendOwn
import Derived.Test.YtlbffbkbkajciaaGreatZU4
import Derived.Test.YtlbffbkbkajciaaGreatZU3
import Derived.Laws.Bits64
import Derived.Test.YtlbffbkbkajciaaGreatZU2
set_option linter.unusedVariables false
set_option linter.unusedSimpArgs false
set_option maxRecDepth 100000
set_option maxHeartbeats 6400000
namespace Go.Bs
theorem zC0{p:Prop}(h:p:=by simp [results, Tryz.results213, go_sem, y0, y1, l1]):p:=h
theorem zCl{p:Prop}(h:p:=by simp; exact hJl.out):p:=h
theorem zA7{p:Prop}(h:p:=by simp [Bu]):p:=h
theorem zA5{p:Prop}(h:p:=by have := hJl.out; omega):p:=h
theorem zAg{p:Prop}(h:p:=by rw [hf.out, KH]; rfl):p:=h
theorem Gc:type_of% @Proofs.Tryz.ntmps231:=@Proofs.Tryz.ntmps231
theorem Gn:type_of% @Proofs.Tryz.underlying24:=@Proofs.Tryz.underlying24
theorem G2:type_of% @Proofs.Tryz.func231:=@Proofs.Tryz.func231
end Go.Bs
namespace Go.Proofs.YtlbffbkbkajciaaGreat
open Go.RowKit Go.Bs Go.Maps
variable{B J J':List UInt8}{xs:List Value}{base c g i lo most n size sz:Nat}{a:Option Addr}{s:Rs}{e t:TypeId}{v v0 v1 v2:Value}{W W' w w' w1:World}
theorem Oi{y:Nat}(h:y<4294967296):bits BinOp.xor IntKind.u32 ((y:Int)/16) ((Dp (y%16):Nat):Int)=((Dp y:Nat):Int):=by
 have:=u32_xor_nat (y/16) (Dp (y%16)) zD (KS zD);rw[Sl] at this;rw[←this];rfl
theorem Ow(h:c<4294967296)(x:UInt8):bits BinOp.xor IntKind.u32 (c:Int) ((x.toNat:Int)%4294967296)=((c^^^x.toNat:Nat):Int):=by
 have hx:=x.toNat_lt;rw[←u32_xor_nat c x.toNat h zD,show (x.toNat:Int)%4294967296=(x.toNat:Int) by omega]
theorem Ux(c:Nat)(hc:c<4294967296)(D:List UInt8)(ad:Option Addr)(nd cd:Nat)(w:World)(hD:Ah.r (·<w.heap.size) w [.slice ad nd cd] D):
  Calls Tryz.prog 229 #[.int .u32 c,.slice ad nd cd] w fun r w'=>r=.returned (.int .u32 (DI c D:Nat))∧Below w.heap.size w w':=by
 obtain⟨rfl,hm,_,_⟩:=AU hD;have HD:=hid hD;clear hD;go_enter Tryz.func229,Tryz.ntmps229;go_wp2_with fail;refine (Sj w).mono ?_;rintro r w1 ⟨rfl,hb1⟩;obtain⟨v0,v1,v2,v3,v4,v5,v6,v7,v8,v9,v10,v11,v12,v13,v14,v15,hv⟩:∃v0 v1 v2 v3 v4 v5 v6 v7 v8 v9 v10 v11 v12 v13 v14 v15:Nat,G9 16=VN:=⟨_,_,_,_,_,_,_,_,_,_,_,_,_,_,_,_,SI⟩;rw[hv];have HV:=hid hv;clear hv;go_wp2_with fail;refine Cm (fun W=>Below w.heap.size w W∧w1.heap.size<W.heap.size∧Blk W w1.heap.size 240 (G9 16)) ⟨zA,zP,by rw[HV.out];exact Blk.new w1 _ _⟩ ?_;intro W ⟨hbW,hzW,hQ⟩;have HQ:=hid hQ;clear hQ;go_wp2_with fail;go_loopw [0,11] (fun s i wr=>∃(k d:Nat),k≤D.length∧i=.int .i64 k∧s=.int .u32 d∧d<4294967296∧Hid (DI c D=DI d (D.drop k))∧wr=W) (fun _ i _=>D.length-(intOf i).toNat)
 case atStart=>exact ⟨0,c,Ao _,rfl,rfl,hc,hid rfl,rfl⟩
 case round=>
  obtain⟨k,d,hk,rfl,rfl,hd,hf,rfl⟩:=hrel;by_cases hlt:k<D.length
  ·obtain⟨b,o,hA,hbb,hx⟩:=Bt (lift HD.out hbW) hlt
   subst hA;have hst:=hid (show DI d (D.drop k)=DI (Gj d D[k]) (D.drop (k+1)) by rw[AO hlt];rfl);generalize D[k]=x at*;have i1:(k:Int)<(D.length:Int):=zD;have hb1:=hid (IT (x:=x) hd);have hcb:=hid (show Gj d x=Dp (Dp (d^^^x.toNat)) from rfl);have hy:d^^^x.toNat<4294967296:=IW hd zC4;have e1:=Ow hd x;generalize d^^^x.toNat=y at*;have hz:Dp y<4294967296:=KS hy;have e2:=MV hy;have e3:=Oi hy;have m1:((y%16:Nat):Int)<16:=zD;have c1:wr.cell? ⟨w1.heap.size,y%16,none⟩=some (.int .u32 (Dp (y%16):Nat)):=by
    have h:=(HQ.out.cell (y%16)).trans (CP 16 (y%16) zD);rw[An zD] at h;exact h
   generalize Dp (y%16)=t1 at*;generalize y%16=m at*;generalize Dp y=z at*;have e4:=MV hz;have e5:=Oi hz;have m2:((z%16:Nat):Int)<16:=zD;have c2:wr.cell? ⟨w1.heap.size,z%16,none⟩=some (.int .u32 (Dp (z%16):Nat)):=by
    have h:=(HQ.out.cell (z%16)).trans (CP 16 (z%16) zD);rw[An zD] at h;exact h
   generalize Dp (z%16)=t2 at*;generalize z%16=n at*;generalize Dp z=q at*;go_wp2;go_roundw
   case rel=>exact ⟨k+1,q,zD,zZ,rfl,by have:=hb1.out;rw[hcb.out] at this;exact this,hid (by rw[hf.out,hst.out,hcb.out]),trivial⟩
   case measure=>simp [intOf];omega
  ·obtain rfl:k=D.length:=by omega
   have hff:Hid (DI c D=d):=hid zAg;go_wp2;go_ret;exact⟨zQ,hbW⟩
theorem Rj(D:List UInt8)(ad:Option Addr)(nd cd:Nat)(w:World)(hD:Ah.r (·<w.heap.size) w [.slice ad nd cd] D):
  Calls Tryz.prog 179 #[.slice ad nd cd] w fun r w'=>r=.returned (.int .u32 (Dj D:Nat))∧Below w.heap.size w w':=by
 have HA:=hid (Ux 4294967295 zS D ad nd cd w hD);have hlt:=JY D (c:=4294967295) zS;have hff:Hid (Dj D=4294967295-DI 4294967295 D):=hid rfl;generalize DI 4294967295 D=s at*;clear hD;go_enter Tryz.func179,Tryz.ntmps179;go_wp2_with fail;refine (Sk w).mono ?_;rintro r w1 ⟨rfl,rfl⟩;go_wp2_with fail;refine HA.out.mono ?_;rintro r w2 ⟨rfl,hb2⟩;go_wp2_with fail;refine (Uw s hlt w2).mono ?_;rintro r w3 ⟨rfl,rfl⟩;go_wp2;go_ret;exact⟨zQ,hb2⟩
end Go.Proofs.YtlbffbkbkajciaaGreat
namespace Go.Bs
open Go.RowKit
def Eu:Nat→Nat→List UInt8
 | 0,_=>[]
 | n+1,x=>UInt8.ofNat (x%256)::Eu n (x/256)
theorem IP:∀(n x:Nat),(Eu n x).length=n
 | 0,_=>rfl
 | n+1,x=>by simp[Eu,IP n]
theorem Kp:∀(n x:Nat),Eu (n+1) x=Eu n x++[UInt8.ofNat (x/256^n%256)]
 | 0,x=>by simp[Eu]
 | n+1,x=>by
  rw[Eu,Kp n (x/256),Eu,KI,Nat.div_div_eq_div_mul,FE,Nat.mul_comm 256]
end Go.Bs
namespace Go.Proofs.YtlbffbkbkajciaaGreat
open Go.RowKit Go.Bs Go.Maps
variable{B J J':List UInt8}{xs:List Value}{base c g i lo most n size sz:Nat}{a:Option Addr}{s:Rs}{e t:TypeId}{v v0 v1 v2:Value}{W W' w w' w1:World}
theorem RU(x:Nat)(hx:x<18446744073709551616)(n:Nat)(hn:n≤8)(w:World):
  Calls Tryz.prog 227 #[.int .u64 x,.int .i64 n] w fun r w'=>∃v,r=.returned v∧w'.ownsRow w.heap.size 5 1 v n (byteCells (Eu n x))∧Below w.heap.size w w':=by
 obtain⟨i0,hi,hz0,hz1,hz2⟩:=Bc Ey;have d1:max (n:Int) 0=n:=zD;have d2:min (n:Int) 8=n:=zD;have d3:(if (n:Int)<0 then (0:Int) else n)=n:=zAh;have d4:(if (8:Int)<n then (8:Int) else n)=n:=zAh;go_enter Tryz.func227,Tryz.ntmps227;go_wp2_with fail;go_loopw [0,5,9] (fun y o i wr=>∃k:Nat,k≤n∧i=.int .i64 k∧y=.int .u64 (x/256^k:Nat)∧wr.ownsRow w.heap.size 5 1 o k (byteCells (Eu k x))∧Below w.heap.size w wr) (fun _ _ i _=>n-(intOf i).toNat)
 case atStart=>exact ⟨0,Ao _,rfl,zP,⟨rfl,.inl ⟨rfl,rfl⟩⟩,Below.refl _ _⟩
 case round=>
  obtain⟨k,hk,rfl,rfl,hown,hb⟩:=hrel;have hbs:=hb.size;obtain⟨aJ,cJ,rfl⟩:=AX hown;have HO:=hid hown;clear hown;by_cases hlt:k<n
  ·have i1:(k:Int)<(n:Int):=by omega
   have hy:x/256^k<18446744073709551616:=Nat.lt_of_le_of_lt (Nat.div_le_self _ _) hx;have hfin:=hid (Kp k x);have hdv:Hid (x/256^(k+1)=x/256^k/256):=hid (by rw[FE,Nat.div_div_eq_div_mul]);generalize x/256^k=y at*;have hby:Hid ((y:Int)%256=((UInt8.ofNat (y%256)).toNat:Int)):=hid zB2;have e0:(y:Int)%256%256=(y:Int)%256:=zD;go_wp2_with (at_builtin;go_loud (refine Ar rfl _ _ _ rfl w.heap.size 5 i0 (.int .u8 0) 1 1 AK hi hz0 hz1 hz2 rfl zS (.slice aJ k cJ) k (byteCells (Eu k x)) rfl (AR HO.out zA) (some ⟨wr.heap.size,0,none⟩) 1 1 [.int .u8 ((y:Int)%256)] rfl (Bf wr 5 _ rfl rfl rfl) ZI zR zD zM ?_;intro v' w1 hown1 hgrow1 hat1;have HG:=hid hgrow1;have HO1:=hid hown1;clear hgrow1 hown1 hat1))
   have ho:=HO1.out;rw[hby.out,C8,←hfin.out] at ho;have hB:Below w.heap.size w w1:=Below.grown zA HG.out zM (fun g e=>(HO.out.lt g e).1);have HO2:=hid ho;clear ho;go_wp2_with fail;go_roundw
   case rel=>exact ⟨k+1,zD,zZ,by rw[hdv.out];go_num,HO2.out,hB⟩
   case measure=>simp [intOf];omega
  ·obtain rfl:k=n:=by omega
   go_wp2;go_ret;exact⟨_,rfl,HO.out,hb⟩
theorem PV(w:World){g base most:Nat}{J:List UInt8}{a:Option Addr}(h:Cl w g base most J a c)(x:Nat)(hx:x<18446744073709551616)(n:Nat)(hn:n≤8)(hfit:J.length+n≤most)(hlen:J.length+n≤100000000000000):
  Calls Tryz.prog 178 #[.pointer (some ⟨g,0,none⟩),.int .u64 x,.int .i64 n] w fun r w'=>r=.returned (.tuple #[])∧Ay w g base most (J++Eu n x) a w':=by
 have hl:=IP n x;have HF:=hid (RU x hx n hn w);have HP:=hid h;clear h;generalize Eu n x=D at*;go_enter Tryz.func178,Tryz.ntmps178;go_wp2_with fail;refine HF.out.mono ?_;rintro r w1 ⟨v,rfl,ho,hb1⟩;obtain⟨a1,c1,rfl⟩:=AX ho;have HQ:=hid (E0 w1 (HP.out.later hb1) D a1 n c1 (GA hl.symm ho) zD zD);clear ho;go_wp2_with fail;refine HQ.out.mono ?_;rintro r w2 ⟨rfl,hst⟩;have HST:=hid (Ay.later hb1 hst);clear hst;go_wp2;first | go_end0 | refine Af (Av rfl _ _ _) rfl ?_
 exact⟨rfl,HST.out⟩
theorem toNat_cast{x:Int}(h:0≤x):((x.toNat:Nat):Int)=x:=Int.toNat_of_nonneg h
def Je(l:List Int):List UInt8:=(l.map fun x=>A5 x.toNat).flatten
def LD(pos:Int)(l:List Int):List UInt8:=A5 l.length++Je (EH pos l)
def Qb(pos:Int):Option Int→List BS→List UInt8
 | _,[]=>[]
 | p,x::l=>A5 (match p with | none=>x.stream | some q=>x.stream-q-1).toNat++LD pos x.backs++Qb pos (some x.stream) l
def GR(pos:Int)(l:List BS):List UInt8:=A5 l.length++Qb pos none l
theorem Ll(x:Int)(l:List Int):Je (x::l)=A5 x.toNat++Je l:=by simp[Je]
theorem Mx(l:List Int):(Je l).length≤10*l.length:=by
 induction l with
 | nil=>simp [Je]
 | cons x l ih=>
  rw[Ll,Au,Bo];have:=(Bj x.toNat).1;omega
theorem K4:∀(p:Int) (l:List Int),(EH p l).length=l.length
 | _,[]=>rfl
 | p,x::l=>by simp only[EH,Bo,K4 x l]
theorem KX{x:Nat}(h:x<128):(A5 x).length=1:=by rw[FN h];rfl
theorem Qu(pos:Int)(l:List Int)(h:l.length<128):(LD pos l).length≤1+10*l.length:=by
 have:=Mx (EH pos l);rw[K4] at this;unfold LD;rw[Au,KX h];omega
theorem Tf{α:Type}{A:Rp α}{w w1:World}{g:Nat}{a a1:Option Addr}{cs:List Value}{x:α}(ht:Tch (DH g a) w w1)(ha:a1.map Addr.block=a.map Addr.block∨∃q,a1.map Addr.block=some q∧w.heap.size≤q)
 (h:A.r (fun q=>q<w.heap.size∧¬DH g a q) w cs x):A.r (fun q=>q<w1.heap.size∧¬DH g a1 q) w1 cs x:=
 A.mono (A.keep h fun q hq=>ht.block q hq.1 hq.2) fun q hq=>⟨Am hq.1 ht.size,Ff ha hq.1 hq.2⟩
theorem Mv{α:Type}{A:Rp α}{w w1:World}{g:Nat}{a:Option Addr}{cs:List Value}{x:α}(hb:Below w.heap.size w w1)
 (h:A.r (fun q=>q<w.heap.size∧¬DH g a q) w cs x):A.r (fun q=>q<w1.heap.size∧¬DH g a q) w1 cs x:=
 A.mono (A.keep h fun q hq=>hb.block q hq.1) fun q hq=>⟨Am hq.1 hb.size,hq.2⟩
theorem Uj{α:Type}{A:Rp α}{w:World}{g:Nat}{a:Option Addr}{cs:List Value}{x:α}(h:A.r (fun q=>q<w.heap.size∧¬DH g a q) w cs x):A.r (·<w.heap.size) w cs x:=A.mono h fun q hq=>hq.1
open Go.RowKit Go.Bs
def CO(w w':World)(b:Nat):Prop:=w.heap.size≤b∧b<w'.heap.size
theorem OB:(Tryz.prog.info? 151).map (fun i=>(i.zero,i.size,i.bytes))=some (some (.agg #[.int .u64 0,.slice none 0 0]),2,32):=zL
theorem Bf(W:World)(e:TypeId)(cs:List Value)(hB:w=W.alloc (.cells cs.toArray e))(hg:g=W.heap.size)(hs:cs.length=sz):Src w (some ⟨g,0,none⟩) 1 sz cs:=by
 subst hB hg;refine⟨zD,.inr ⟨_,0,rfl,fun j u hu=> ?_⟩⟩;rw[Cb,Blk.cell (Blk.new W e cs.toArray)];simpa using hu
theorem Nq(pos:Int)(l:List BS)(hR:Dz pos l=true):(Qb pos none l).length≤51*l.length:=by
 have key:∀(l:List BS) (p:Option Int),(∀x∈l,Ec pos x=true)→(Qb pos p l).length≤51*l.length:=by
  intro l;induction l with
  | nil=>intro p _;simp[Qb]
  | cons x l ih=>
   intro p hx;have h1:=hx x zP;simp only[Ec,AL,AN] at h1;have h2:=ih (some x.stream) (fun y hy=>hx y (by simp[hy]));have h3:=Qu pos x.backs zD;cases p with
   | none=>
    have h4:=(Bj x.stream.toNat).1;simp only[Qb,Au,Bo];omega
   | some q=>
    have h4:=(Bj (x.stream-q-1).toNat).1;simp only[Qb,Au,Bo];omega
 simp only[Dz,AL,AN,List.all_eq_true] at hR;exact key l none hR.2.2
theorem LB(w:World){g base most:Nat}{J:List UInt8}{a:Option Addr}(h:Cl w g base most J a c)(x:Nat)(hx:x<18446744073709551616)(hfit:J.length+(A5 x).length≤most)(hlen:J.length+(A5 x).length≤100000000000000):
  Calls Tryz.prog 146 #[.pointer (some ⟨g,0,none⟩),.int .u64 x,.bool true] w fun r w'=>r=.returned (.tuple #[])∧Ay w g base most (J++A5 x) a w':=by
 have HV:=hid (DQ w h x hx hfit hlen);clear h;go_enter Tryz.func146,Tryz.ntmps146;go_wp2_with fail;refine HV.out.mono ?_;rintro r w1 ⟨rfl,hst⟩;have HST:=hid hst;clear hst;go_wp2;first | go_end0 | refine Af (Av rfl _ _ _) rfl ?_
 exact⟨rfl,HST.out⟩
theorem Si(w:World){g base most:Nat}{J:List UInt8}{a:Option Addr}(h:Cl w g base most J a c)(x:Nat)(hx:epR (x:Int)=true)(hfit:J.length+(A5 x).length≤most)(hlen:J.length+(A5 x).length≤100000000000000):
  Calls Tryz.prog 111 #[.pointer (some ⟨g,0,none⟩),.int .u64 x] w fun r w'=>r=.returned (.tuple #[])∧Ay w g base most (J++A5 x) a w':=by
 have hx':=hx;simp only[epR,AN] at hx';have HR:=hid (Fm (x:Int) w);rw[hx] at HR;have HV:=hid (LB w h x zD hfit hlen);clear h hx hx';go_enter Tryz.func111,Tryz.ntmps111;go_wp2_with fail;refine HR.out.mono ?_;rintro r w1 ⟨rfl,rfl⟩;go_wp2_with fail;refine HV.out.mono ?_;rintro r w1 ⟨rfl,hst⟩;have HST:=hid hst;clear hst;go_wp2;first | go_end0 | refine Af (Av rfl _ _ _) rfl ?_
 exact⟨rfl,HST.out⟩
theorem Nw(w:World){g base most:Nat}{J:List UInt8}{a:Option Addr}(h:Cl w g base most J a c)(x:Nat)(hx:poR (x:Int)=true)(hfit:J.length+(A5 x).length≤most)(hlen:J.length+(A5 x).length≤100000000000000):
  Calls Tryz.prog 64 #[.pointer (some ⟨g,0,none⟩),.int .u64 x] w fun r w'=>r=.returned (.tuple #[])∧Ay w g base most (J++A5 x) a w':=by
 have hx':=hx;simp only[poR,AN] at hx';have HR:=hid (JU (x:Int) w);rw[hx] at HR;have HV:=hid (LB w h x zD hfit hlen);clear h hx hx';go_enter Tryz.func64,Tryz.ntmps64;go_wp2_with fail;refine HR.out.mono ?_;rintro r w1 ⟨rfl,rfl⟩;go_wp2_with fail;refine HV.out.mono ?_;rintro r w1 ⟨rfl,hst⟩;have HST:=hid hst;clear hst;go_wp2;first | go_end0 | refine Af (Av rfl _ _ _) rfl ?_
 exact⟨rfl,HST.out⟩
theorem Ee(h:Blk w g t #[v0,v1,v2]):w.cell? ⟨g,0,none⟩=some v0∧w.cell? ⟨g,1,none⟩=some v1∧w.cell? ⟨g,2,none⟩=some v2∧w.frozen? ⟨g,0,none⟩=false∧w.frozen? ⟨g,1,none⟩=false∧w.frozen? ⟨g,2,none⟩=false∧g<w.heap.size:=
 ⟨h.cell 0,h.cell 1,h.cell 2,h.free 0,h.free 1,h.free 2,h.lt⟩
theorem Te(w:World){g most:Nat}(h:Cl w g base most J a c)(k:Int):
  Calls Tryz.prog 60 #[.pointer (some ⟨g,0,none⟩),.int .i64 k] w fun r w'=>r=.returned (.tuple #[])∧Blk w' g 87 #[.int .i64 most,.slice a J.length c,.int .i64 k]∧Tch (·=g) w w':=by
 have HC:=hid (Jd w h);have HB:=hid h.blk;have c2:w.cell? ⟨g,2,none⟩=some (.int .i64 0):=h.blk.cell 2;have f2:=h.blk.free 2;have hgl:=h.blk.lt;clear h;go_enter Tryz.func60,Tryz.ntmps60;go_wp2_with fail;refine HC.out.mono ?_;rintro r w1 ⟨rfl,rfl⟩;go_wp2;first | go_end0 | refine Af (Av rfl _ _ _) rfl ?_
 exact⟨rfl,HB.out.set 2 _,Tch.setCell (F:=(·=g)) (p:=⟨g,2,none⟩) (Tch.refl _ _) (fun _=>rfl) _⟩
def QQ(w:World)(base:Nat)(v:Value)(L:List UInt8):Prop:=w.ownsRow base 5 1 v L.length (byteCells L)
theorem QQ.low{b b':Nat}{L:List UInt8}(h:QQ w b v L)(hb:b'≤b):QQ w b' v L:=by
 obtain⟨h1,h2⟩:=h;refine⟨h1,?_⟩;rcases h2 with h2 | ⟨g,cap,cur,e1,e2,e3⟩
 ·exact .inl h2
 ·exact .inr ⟨g,cap,cur,e1,zD,e3⟩
theorem QQ.form{b:Nat}{L:List UInt8}(h:QQ w b v L):∃a c,v=.slice a L.length c:=AX h
theorem LW(w:World)(h:Cl w g base most J a c):
  Calls Tryz.prog 17 #[.pointer (some ⟨g,0,none⟩)] w fun r w'=>∃v,r=.returned (.tuple #[v,.int .i64 0])∧QQ w' w.heap.size v J∧Below w.heap.size w w':=by
 obtain⟨i0,hi,hz0,hz1,hz2⟩:=Bc Ey;have HC:=hid (Jd w h);have hB:=B9 rfl h.own;obtain⟨_,hm,_,_⟩:=AU hB;have HD:=hid (Ah.mono hB (S':=(·<w.heap.size)) fun q hq=>hq.2);have HONE:=hid (Bd J);have c1:w.cell? ⟨g,1,none⟩=some (.slice a J.length c):=h.blk.cell 1;have hg1:=h.blk.lt;have hle:=h.le;have hmo:=h.most;have hle14:=h.len;clear h hB;go_enter Tryz.func17,Tryz.ntmps17;go_wp2_with fail;refine HC.out.mono ?_;rintro r w0 ⟨rfl,rfl⟩;go_wp2_with (at_builtin;go_loud (refine Ar rfl _ _ _ rfl w.heap.size 5 i0 (.int .u8 0) 1 1 AK hi hz0 hz1 hz2 rfl zS _ 0 [] rfl (EW _ (Aj _) rfl) a J.length c (byteCells J) rfl (BZ (lift HD.out zC)) HONE.out zR zD zP ?_;intro v' w1 hown1 hgrow1 hat1;rw[Cb,BU] at hown1;obtain⟨a',c',rfl⟩:=AX hown1;have HG:=hid hgrow1;have HO:=hid hown1;clear hgrow1 hown1 hat1))
 have hb1:Below w.heap.size w w1:=Below.grown zC HG.out zP (fun g e=>by
  have e':some w.heap.size=some g:=e;injection e' with e';omega)
 go_ret2
 exact⟨_,rfl,HO.out,hb1⟩
end Go.Proofs.YtlbffbkbkajciaaGreat
namespace Go.Bs
open Go.RowKit
end Go.Bs
namespace Go.Proofs.YtlbffbkbkajciaaGreat
open Go.RowKit Go.Bs Go.Maps
variable{B J J':List UInt8}{xs:List Value}{base c g i lo most n size sz:Nat}{a:Option Addr}{s:Rs}{e t:TypeId}{v v0 v1 v2:Value}{W W' w w' w1:World}
def ET(w1:World)(g most:Nat)(J:List UInt8)(w:World):Prop:=Ay w1 g g most J none w
theorem ET.new(h:Cl w g g most [] none 0):ET w g most [] w:=Ay.refl h
theorem ET.step(h:ET w1 g most J w)(k:∀a c,Cl w g g most J a c→Ay w g g most J' a w'):ET w1 g most J' w':=by
 obtain⟨a,c,h1,h2,h3⟩:=h;exact Ay.trans (J:=J) h2 h3 (k a c h1)
theorem ET.at(h:ET w1 g most J w):∃a c,Cl w g g most J a c∧(∀{J':List UInt8} {w':World},Ay w g g most J' a w'→ET w1 g most J' w')∧(∀q,q<w1.heap.size→q≠g→¬DH g a q):=by
 obtain⟨a,c,h1,h2,h3⟩:=h;refine⟨a,c,h1,fun k=>Ay.trans (J:=J) h2 h3 k,fun q hq hn e=> ?_⟩;rw[Fy] at e;rcases e with e | e
 ·exact hn e
 ·rcases h3 with h3 | ⟨q',h3,h4⟩
  ·rw[h3] at e;cases e
  ·rw[h3] at e;have:=By e;omega
theorem ET.later(h:ET w1 g most J w)(hb:Below w.heap.size w w'):ET w1 g most J w':=by
 obtain⟨a,c,h1,k,_⟩:=h.at;exact k ⟨a,c,h1.later hb,Tch.Ce hb,.inl rfl⟩
theorem ET.tch(h:ET w1 g most J w):Tch (·=g) w1 w:=by
 obtain⟨a,c,h1,h2,h3⟩:=h;refine h2.mono fun q _ e=> ?_;rw[Fy] at e;rcases e with e | e
 ·exact e
 ·cases e
theorem ET.blk(h:ET w1 g most J w){b:Nat}{t:TypeId}{cs:Array Value}(hB:Blk w1 b t cs)(hn:b≠g):Blk w b t cs:=hB.tch h.tch hn
theorem ET.below{w0:World}(h:ET w1 g most J w)(h0:Below w0.heap.size w0 w1)(hg:w0.heap.size≤g):Below w0.heap.size w0 w:=
 h0.trans (h.tch.Ba h0.size fun b _ e=>zD)
end Go.Proofs.YtlbffbkbkajciaaGreat
namespace Go.Bs
open Go.RowKit
end Go.Bs
namespace Go.Proofs.YtlbffbkbkajciaaGreat
open Go.RowKit Go.Bs Go.Maps
variable{B J J':List UInt8}{xs:List Value}{base c g i lo most n size sz:Nat}{a:Option Addr}{s:Rs}{e t:TypeId}{v v0 v1 v2:Value}{W W' w w' w1:World}
def FY(p:List UInt8):List UInt8:=DG p++Eu 4 (Dj p)
theorem Ly(p:List UInt8):(FY p).length=(DG p).length+4:=by simp[FY,IP]
theorem Qp(n:Nat)(hn:n≤100000000000000)(w:World):
  Calls Tryz.prog 177 #[.int .i64 n] w fun r w'=>r=.returned (.int .i64 ((A5 n).length+n+4:Nat))∧Below w.heap.size w w':=by
 have HS:=hid (J1 n hn w);have hl:=Bj n;generalize (A5 n).length=k at*;go_enter Tryz.func177,Tryz.ntmps177;go_wp2_with fail;refine HS.out.mono ?_;rintro r w1 ⟨rfl,hb1⟩;go_wp2;go_ret;exact⟨zBo,hb1⟩
theorem Se(w:World){g base most:Nat}{J:List UInt8}{a:Option Addr}(h:Cl w g base most J a c)(D:List UInt8)(ad:Option Addr)(nd cd:Nat)
 (hD:Ah.r (fun q=>q<w.heap.size∧¬DH g a q) w [.slice ad nd cd] D) (hm:D.length≤2097152) (hfit:J.length+(FY D).length≤most) (hlen:J.length+(FY D).length≤100000000000000):
  Calls Tryz.prog 112 #[.pointer (some ⟨g,0,none⟩),.slice ad nd cd] w fun r w'=>r=.returned (.tuple #[])∧Ay w g base most (J++FY D) a w':=by
 obtain⟨rfl,_,_,_⟩:=AU hD;rw[Ly] at hfit hlen;have d1:decide ((2097152:Int)<(D.length:Int))=false:=Ad zD;have HB:=hid (OZ w h D ad _ cd hD zD zD);have HC:=hid (fun (W:World) h=>Rj D ad D.length cd W h);have HL:=JX D;have hb:Hid (FY D=DG D++Eu 4 (Dj D)):=hid rfl;have HD:=hid hD;generalize FY D=K at*;generalize Dj D=s at*;generalize DG D=E at*;clear h hD;go_enter Tryz.func112,Tryz.ntmps112;go_wp2_with fail;refine HB.out.mono ?_;rintro r w3 ⟨rfl,a3,c3,p3,t3,h3⟩;have hs3:=t3.size;have HD3:=hid (Ah.keep HD.out fun q hq=>t3.block q hq.1 hq.2);have HST:=hid (fun (J':List UInt8) (W:World) (k:Ay w3 g base most J' a3 W)=>Ay.trans (J:=J++E) t3 h3 k);have P3:=hid p3;clear p3 t3 h3;go_wp2_with fail;refine (HC.out w3 (Ah.mono HD3.out fun q hq=>zV)).mono ?_;rintro r w4 ⟨rfl,hb4⟩;have e1:(s:Int)%18446744073709551616=s:=zD;go_wp2_with fail;refine (PV w4 (P3.out.later hb4) s zD 4 zD zM zM).mono ?_;rintro r w5 ⟨rfl,hs5⟩;have hst:=HST.out _ _ (Ay.later hb4 hs5);rw[CF,←hb.out] at hst;have HST2:=hid hst;clear hst hs5;go_wp2;first | go_end0 | refine Af (Av rfl _ _ _) rfl ?_
 exact⟨rfl,HST2.out⟩
theorem OD(w:World)(D:List UInt8)(ad:Option Addr)(nd cd:Nat)(hD:Ah.r (·<w.heap.size) w [.slice ad nd cd] D)(hm:D.length≤2097152):
  Calls Tryz.prog 110 #[.slice ad nd cd] w fun r w'=>∃x,r=.returned (.tuple #[x,.int .i64 0])∧QQ w' w.heap.size x (FY D)∧Below w.heap.size w w':=by
 obtain⟨rfl,_,_,_⟩:=AU hD;have HS:=hid (Qp D.length zD w);have hvl:=Bj D.length;have hl:(FY D).length=(A5 D.length).length+D.length+4:=by rw[Ly,GD]
 have HN:=hid (fun W:World=>Jc W ((A5 D.length).length+D.length+4) zD);have HP:=hid (fun (W:World) (g:Nat) (h:Cl W g g ((A5 D.length).length+D.length+4) [] none 0) (h1:Ah.r (fun q=>q<W.heap.size∧¬DH g none q) W [.slice ad D.length cd] D)=>Se W h D ad _ cd h1 hm zM zM);have HD:=hid hD;generalize FY D=K at*;generalize (A5 D.length).length+D.length+4=M at*;clear hD;go_enter Tryz.func110,Tryz.ntmps110;go_wp2_with fail;refine HS.out.mono ?_;rintro r w1 ⟨rfl,hb1⟩;go_wp2_with fail;refine (HN.out w1).mono ?_;rintro r w2 ⟨rfl,hp2,hb2⟩;have hbw2:Below w.heap.size w w2:=Ag hb2 hb1;have hz1:=hb1.size;have hz2:=hb2.size;have HQ:=hid (HP.out w2 _ hp2 (Ah.mono (Ah.keep HD.out fun q hq=>hbw2.block q hq) fun q hq=>⟨zD,by rw[Fy];rintro (e | e);omega;cases e⟩));clear hp2;go_wp2_with fail;refine HQ.out.mono ?_;rintro r w3 ⟨rfl,hs3⟩;have K3:Hid (ET w2 w1.heap.size M K w3):=hid hs3;clear hs3 HQ;go_wp2_with fail;obtain⟨a7,b7,p7,k7,_⟩:=K3.out.at;refine (LW w3 p7).mono ?_;rintro r w8 ⟨x,rfl,hr,hb8⟩;have hbw:=K3.out.below hbw2 zD;have HR:=hid hr;clear hr k7 p7;go_wp2;go_ret2
 exact⟨_,rfl,HR.out.low hbw.size,Ag hb8 hbw⟩
def EY:List UInt8→Nat
 | []=>0
 | b::l=>b.toNat+256*EY l
theorem Ns:∀l:List UInt8,EY l<256^l.length
 | []=>by decide
 | b::l=>by
  have h1:=Ns l;have h2:=b.toNat_lt;simp only[EY,Bo,FE];omega
theorem ML:∀(l:List UInt8) (b:UInt8),EY (l++[b])=EY l+b.toNat*256^l.length
 | [],b=>by simp[EY]
 | x::l,b=>by
  simp only[KI,EY,Bo,ML l b,FE,Nat.mul_add,Nat.add_assoc];congr 1
  congr 1
  rw[Nat.mul_comm 256,Nat.mul_assoc]
theorem Ul{X:Nat}(hX:X<256^i)(hi:i≤7)(hc:c<256):bits .or .u64 (X:Int) (IntKind.u64.wrap ((c:Int)*2^(8*i)))=((X+c*256^i:Nat):Int):=by
 have h1:(256:Nat)^i=2^(8*i):=by rw[Nat.pow_mul]
 have h2:(256:Nat)^i≤256^7:=EN zS hi;have h3:(256:Nat)^7=72057594037927936:=zS;have h4:c*256^i≤255*256^i:=Cj _ zD;have e:(c:Int)*2^(8*i)=((c*256^i:Nat):Int):=by
  rw[h1];simp
 rw[e,KJ,Int.emod_eq_of_lt zD zD,bits_or_u64_nat _ _ zD zD];rw[h1] at hX ⊢;rw[Nat.or_comm,←Nat.shiftLeft_eq,←Nat.shiftLeft_add_eq_or_of_lt hX,Nat.add_comm]
theorem LL(w:World){g:Nat}{B:List UInt8}{a:Option Addr}{s:Rs}(h:AY w g B a s)(hB:B.length≤1000000000)(n:Nat)(hn:n≤8):
  Calls Tryz.prog 262 #[.pointer (some ⟨g,0,none⟩),.int .i64 (n:Int)] w fun r w'=>r=.returned (.int .u64 (EY (s.take B n).2:Nat))∧AB w g B a (s.take B n).1 w':=by
 have HT:=hid (KM w h (n:Int) zD zD);have hlen:(s.take B n).2.length≤n:=by
  unfold Rs.take;split
  ·simp;omega
  ·simp
 have hlt:=h.blk.lt;generalize s.take B (n:Int)=T at*;obtain⟨s1,L⟩:=T;dsimp only at*;have n0:(0:Int)≤(n:Int):=zD;have n8:(n:Int)≤8:=zD;clear h;go_enter Tryz.func262,Tryz.ntmps262;go_wp2_with fail;refine HT.out.mono ?_;rintro r w1 ⟨v,rfl,hv,hst⟩;obtain⟨a1,c1,hfv,hv2,_⟩:=At hv;simp only[Ai,As] at hfv;subst hfv;have HV:=hid hv2;have HST:=hid hst;clear hv hv2 hst;go_wp2_with fail;go_loopw [5,14] (fun x i wr=>∃j:Nat,j≤L.length∧i=.int .i64 j∧x=.int .u64 ((EY (L.take j):Nat):Int)∧w1=wr) (fun _ i _=>L.length-(intOf i).toNat)
 case atStart=>exact ⟨0,Ao _,rfl,rfl,rfl⟩
 case round=>
  obtain⟨j,hj,rfl,rfl,rfl⟩:=hrel;by_cases hlt2:j<L.length
  ·have d1:decide ((j:Int)<(L.length:Int))=true:=Ae zD
   have i1:(j:Int)<(L.length:Int):=zD;obtain⟨b,o,rfl,_,hc⟩:=Bt HV.out hlt2;have hff:=hid (show EY (L.take (j+1))=EY (L.take j)+L[j].toNat*256^j by
    rw[EO hlt2,ML];congr 3
    simp;omega)
   have hX:EY (L.take j)<256^j:=by
    have:=Ns (L.take j);rwa [List.length_take,Nat.min_eq_left hj] at this
   have hb:=L[j].toNat_lt;have E:=hid (Ul (c:=L[j].toNat) hX zD zD);have hXb:EY (L.take j)<18446744073709551616:=Am hX (A4 (EN zS (show j≤7 by omega)) zS);generalize L[j].toNat=y at*;generalize EY (L.take j)=X at*;clear hX;have m0:(0:Int)≤8*(j:Int):=zD;have m1:8*(j:Int)≤64:=zD;go_wp2_with fail;go_roundw
   case rel=>exact ⟨j+1,zD,zZ,by rw[E.out,hff.out],by trivial⟩
   case measure=>(simp[intOf];try omega)
  ·obtain rfl:j=L.length:=by omega
   have d1:decide ((L.length:Int)<(L.length:Int))=false:=Ad zD;rw[KF];go_wp2_with fail;go_ret;exact⟨rfl,HST.out⟩
theorem OE(m:Int)(w:World):Calls Tryz.prog 261 #[.int .i64 m] w fun r w'=>r=.returned (.int .i64 (min m 2097152))∧w=w':=by
 by_cases h:m≤2097152
 ·have e:min m 2097152=m:=by omega
  rw[e];clear e;go_enter Tryz.func261,Tryz.ntmps261;go_wp2_with fail;go_ret;exact⟨rfl,rfl⟩
 ·have e:min m 2097152=2097152:=by omega
  have h':2097152<m:=zD;rw[e];clear e;go_enter Tryz.func261,Tryz.ntmps261;go_wp2_with fail;go_ret;exact⟨rfl,rfl⟩
theorem LZ{w:World}{g:Nat}{B:List UInt8}{a:Option Addr}{s:Rs}(h:AY w g B a s)(D:List UInt8)(ad:Option Addr)(cd:Nat)(hD:Ah.r (·<w.heap.size) w [.slice ad D.length cd] D)(v:Nat)(p:Int):
  Calls Tryz.prog 263 #[.slice ad D.length cd,.int .u64 (v:Int),.func (Fn.func 180) #[.pointer (some ⟨g,0,none⟩)] #[],.int .i64 p] w fun r w'=>r=.returned (.tuple #[])∧AB w g B a (if Dj D=v then s else s.fail 6 p) w':=by
 have HC:=hid (Rj D ad _ cd w hD);have hlt:=JX D;have HH:=hid h;clear h hD;generalize Dj D=q at*;by_cases hq:q=v
 ·rw[An hq]
  subst hq;have d1:((q:Int) !=(q:Int))=false:=zP;go_enter Tryz.func263,Tryz.ntmps263;go_wp2_with fail;refine HC.out.mono ?_;rintro r w1 ⟨rfl,hb⟩;have HST:=hid (AB.later HH.out hb);clear hb;go_wp2_with fail;first | go_end0 | refine Af (Av rfl _ _ _) rfl ?_
  exact⟨rfl,HST.out⟩
 ·rw[Ak hq]
  have d1:((q:Int) !=(v:Int))=true:=zM;clear hq;go_enter Tryz.func263,Tryz.ntmps263;go_wp2_with fail;refine HC.out.mono ?_;rintro r w1 ⟨rfl,hb⟩;have HST:=hid (AB.later HH.out hb);have HF:=hid (Br w1 HST.out.1 6 p zD);clear hb;go_wp2_with fail;refine HF.out.mono ?_;rintro r w2 ⟨rfl,hst⟩;have HS2:=hid (AB.trans HST.out.2 hst);clear hst;go_wp2_with fail;first | go_end0 | refine Af (Av rfl _ _ _) rfl ?_
  exact⟨rfl,HS2.out⟩
def Rs.frame(B:List UInt8)(s:Rs)(m:Int):Rs × List UInt8:=
 let b:=s.Cd B (min m 2097152)
 let f:=b.1.take B 4
 let r:=if Dj b.2=EY f.2 then f.1 else f.1.fail 6 b.1.p
 (r,if r.k=0 then b.2 else [])
theorem Qq(w:World){g:Nat}{B:List UInt8}{a:Option Addr}{s:Rs}(h:AY w g B a s)(hB:B.length≤1000000000)(m:Int)(hm: -9223372036854775808≤m∧m≤9223372036854775807):
  Calls Tryz.prog 245 #[.pointer (some ⟨g,0,none⟩),.int .i64 m] w fun r w'=>∃v,r=.returned v∧Ah.r (fun q=>w.heap.size≤q∧q<w'.heap.size) w' [v] (s.frame B m).2∧AB w g B a (s.frame B m).1 w':=by
 have hlt:=h.blk.lt;have HBD:=hid (OE m w);have HBL:=hid (MT w h zD (min m 2097152) zD);unfold Rs.frame;dsimp only;generalize s.Cd B (min m 2097152)=P at*;obtain⟨s1,D⟩:=P;dsimp only at*;have HFX:=hid (fun (W:World) (hW:AY W g B a s1)=>(by have:=LL W hW hB 4 zD;exact this:Calls Tryz.prog 262 #[.pointer (some ⟨g,0,none⟩),.int .i64 4] W fun r w'=>r=.returned (.int .u64 ((EY (s1.take B 4).2:Nat):Int))∧AB W g B a (s1.take B 4).1 w'));have HAT:=hid (fun (W:World) (hW:AY W g B a s1)=>Cc W hW);generalize s1.take B 4=T at*;obtain⟨s2,F⟩:=T;dsimp only at*;generalize EY F=v at*;have HCK:=hid (fun (W:World) (hW:AY W g B a s2) (ad:Option Addr) (cd:Nat) (hD:Ah.r (·<W.heap.size) W [.slice ad D.length cd] D)=>LZ hW D ad cd hD v (s1.p:Int));generalize (if Dj D=v then s2 else s2.fail 6 (s1.p:Int))=s3 at*;generalize hRS:(if s3.k=0 then D else [])=RES;have HRS:=hid hRS;generalize min m 2097152=mm at*;clear h hRS;by_cases hk:s3.k=0
 ·have HG:=hid (fun (V:World) (hV:AY V g B a s3)=>(by have:=AG V hV;rw[Ae hk] at this;exact this:Calls Tryz.prog 44 #[.pointer (some ⟨g,0,none⟩)] V fun r w'=>r=.returned (.bool true)∧Below V.heap.size V w'))
  have HR2:Hid (RES=D):=hid (by rw[←HRS.out];exact An hk);clear hk;go_enter Tryz.func245,Tryz.ntmps245;go_wp2_with fail;refine HBD.out.mono ?_;rintro r w0 ⟨rfl,rfl⟩;go_wp2_with fail;refine HBL.out.mono ?_;rintro r w1 ⟨v1,rfl,hv1,hst1⟩;obtain⟨ad,cd,hfv,hv2,_⟩:=At hv1;simp only[Ai,As] at hfv;subst hfv;have HV1:=hid hv2;have HS1:=hid hst1;have hz1:=hst1.2.size;clear hv1 hv2 hst1;go_wp2_with fail;refine (HAT.out w1 HS1.out.1).mono ?_;rintro r w1' ⟨rfl,rfl⟩;go_wp2_with fail;refine (HFX.out w1 HS1.out.1).mono ?_;rintro r w3 ⟨rfl,hst3⟩;have HV3:=hid (Ah.mono (Ah.keep HV1.out (w':=w3) fun q hq=>hst3.2.block q hq.2 zV) (S':=fun q=>w.heap.size≤q∧q<w3.heap.size) fun q hq=>⟨hq.1,Am hq.2 hst3.2.size⟩);have HS3:=hid (AB.trans HS1.out.2 hst3);clear hst3;go_wp2_with fail;refine (HCK.out w3 HS3.out.1 ad cd (Ah.mono HV3.out fun q hq=>hq.2)).mono ?_;rintro r w4 ⟨rfl,hst4⟩;have HV4:=hid (Ah.mono (Ah.keep HV3.out (w':=w4) fun q hq=>hst4.2.block q hq.2 zV) (S':=fun q=>w.heap.size≤q∧q<w4.heap.size) fun q hq=>⟨hq.1,Am hq.2 hst4.2.size⟩);have HS4:=hid (AB.trans HS3.out.2 hst4);clear hst4;go_wp2_with fail;refine (HG.out w4 HS4.out.1).mono ?_;rintro r w5 ⟨rfl,hb5⟩;have HSE:=hid (HS4.out.then hb5);have HVF:=hid (show Ah.r (fun q=>w.heap.size≤q∧q<w5.heap.size) w5 [.slice ad D.length cd] D from Ah.mono (Ah.keep HV4.out fun q hq=>hb5.block q hq.2) fun q hq=>⟨hq.1,Am hq.2 hb5.size⟩);clear hb5;go_wp2_with fail;go_ret;rw[HR2.out];exact⟨_,rfl,HVF.out,HSE.out⟩
 ·have HG:=hid (fun (V:World) (hV:AY V g B a s3)=>(by have:=AG V hV;rw[Ad hk] at this;exact this:Calls Tryz.prog 44 #[.pointer (some ⟨g,0,none⟩)] V fun r w'=>r=.returned (.bool false)∧Below V.heap.size V w'))
  have HR2:Hid (RES=[]):=hid (by rw[←HRS.out];exact Ak hk);clear hk;go_enter Tryz.func245,Tryz.ntmps245;go_wp2_with fail;refine HBD.out.mono ?_;rintro r w0 ⟨rfl,rfl⟩;go_wp2_with fail;refine HBL.out.mono ?_;rintro r w1 ⟨v1,rfl,hv1,hst1⟩;obtain⟨ad,cd,hfv,hv2,_⟩:=At hv1;simp only[Ai,As] at hfv;subst hfv;have HV1:=hid hv2;have HS1:=hid hst1;have hz1:=hst1.2.size;clear hv1 hv2 hst1;go_wp2_with fail;refine (HAT.out w1 HS1.out.1).mono ?_;rintro r w1' ⟨rfl,rfl⟩;go_wp2_with fail;refine (HFX.out w1 HS1.out.1).mono ?_;rintro r w3 ⟨rfl,hst3⟩;have HV3:=hid (Ah.mono (Ah.keep HV1.out (w':=w3) fun q hq=>hst3.2.block q hq.2 zV) (S':=fun q=>w.heap.size≤q∧q<w3.heap.size) fun q hq=>⟨hq.1,Am hq.2 hst3.2.size⟩);have HS3:=hid (AB.trans HS1.out.2 hst3);clear hst3;go_wp2_with fail;refine (HCK.out w3 HS3.out.1 ad cd (Ah.mono HV3.out fun q hq=>hq.2)).mono ?_;rintro r w4 ⟨rfl,hst4⟩;have HV4:=hid (Ah.mono (Ah.keep HV3.out (w':=w4) fun q hq=>hst4.2.block q hq.2 zV) (S':=fun q=>w.heap.size≤q∧q<w4.heap.size) fun q hq=>⟨hq.1,Am hq.2 hst4.2.size⟩);have HS4:=hid (AB.trans HS3.out.2 hst4);clear hst4;go_wp2_with fail;refine (HG.out w4 HS4.out.1).mono ?_;rintro r w5 ⟨rfl,hb5⟩;have HSE:=hid (HS4.out.then hb5);clear hb5;go_wp2_with fail;go_ret;rw[HR2.out];exact⟨_,rfl,AZ (xs:=[]) rfl (Aj _) (Ao _) (.inl rfl),HSE.out⟩
theorem Sg(w:World)(B:List UInt8)(a:Option Addr)(n c:Nat)(hl:Ah.r (·<w.heap.size) w [.slice a n c] B)(hB:B.length≤1000000000)(most:Int)(hm: -9223372036854775808≤most∧most≤9223372036854775807):
  Calls Tryz.prog 213 #[.slice a n c,.int .i64 most] w fun r w'=>∃v,r=.returned (.tuple #[v,.int .i64 ((Jq (((⟨0,0,0⟩:Rs).frame B most))).2.1:Int),.agg #[.int .i64 (Jq (((⟨0,0,0⟩:Rs).frame B most))).2.2.1,.int .i64 (Jq (((⟨0,0,0⟩:Rs).frame B most))).2.2.2]])∧Ah.r (fun q=>w.heap.size≤q∧q<w'.heap.size) w' [v] (Jq (((⟨0,0,0⟩:Rs).frame B most))).1∧Below w.heap.size w w':=by
 obtain⟨rfl,hmx,hcc,hcm⟩:=AU hl;have HN:=hid (PM (w.alloc (.cells #[.int .i64 0,.int .i64 0] 58)) B a _ c (lift hl zA));have hLS:=hid (fun (W:World) (h:AY W (w.heap.size+1) B a ⟨0,0,0⟩)=>Qq W h hB most hm);unfold Jq;generalize ((⟨0,0,0⟩:Rs).frame B most)=L at*;obtain⟨s1,D⟩:=L;dsimp only at*;clear hl;by_cases hk:s1.k=0
 ·rw[An hk]
  have d1:decide (s1.k=0)=true:=Ae hk;clear hk;dsimp only;go_enter Tryz.func213,Tryz.ntmps213;go_wp2_with fail;refine HN.out.mono ?_;rintro r w1 ⟨rfl,hrd,hb1⟩;have F1:Blk w1 w.heap.size 58 #[.int .i64 0,.int .i64 0]:=Blk.later zB hb1;have hbw1:Below w.heap.size w w1:=zA;have hgl:=hrd.blk.lt;simp at hrd hgl;have HRD:=hid hrd;have HLS:=hid (hLS.out w1 hrd);clear hrd hb1;go_wp2_with fail;refine HLS.out.mono ?_;rintro r w2 ⟨v,rfl,hr,hst⟩;obtain⟨aD,cD,hv,hr2,_⟩:=At hr;simp only[Ai,As] at hv;subst hv;have HST:=hid hst;have HR:=hid hr2;have hs2:=hst.size;have F2:=F1.tch hst.2 zD;have hbw2:Below w.heap.size w w2:=hbw1.trans (hst.below zD zD);have HFA:=hid (Hr w2 hst.1);clear hr hr2 hst F1;go_wp2_with fail;refine HFA.out.mono ?_;rintro r w3 ⟨rfl,hb3⟩;have F3:=F2.later hb3;have hG:=CN (w3.alloc (.cells #[.int .i64 s1.k,.int .i64 s1.f] 58)) s1.k s1.f;rw[d1] at hG;have HG:=hid hG;have hbw3:=Ag hb3 hbw2;clear hG d1;go_wp2_with fail;refine HG.out.mono ?_;rintro r w4 ⟨rfl,hb4⟩;have F4:=(F3.alloc _).later hb4;obtain⟨y0,y1,g0,g1,l1⟩:=A1 F4;have hb24:Below w2.heap.size w2 w4:=zA;have hbw4:=Ag hb24 hbw2;have HST4:=hid (HST.out.then hb24);have hs4:=hb24.size;have HAT:=hid (Cc w4 HST4.out.1);have HRK:=hid (Ah.mono (S':=fun q=>w.heap.size+1<q∧q<w4.heap.size) (Ah.keep HR.out fun q hq=>hb24.block q hq.2) fun q hq=>⟨zD,zD⟩);clear F2 F3 F4;go_wp2_with fail;refine HAT.out.mono ?_;rintro r w4' ⟨rfl,rfl⟩;go_wp2;refine Af (v:=.tuple #[.slice aD D.length cD,.int .i64 (s1.p:Int),.agg #[.int .i64 0,.int .i64 0]]) zC0 rfl ⟨_,rfl,?_,zA⟩;refine Ah.mono (Ah.keep HRK.out fun q hq=> ?_) fun q hq=>⟨zD,Z3⟩;repeat (rw[Ap _ _ _ _ zH])
 ·rw[Ak hk]
  have d1:decide (s1.k=0)=false:=Ad hk;clear hk;dsimp only;go_enter Tryz.func213,Tryz.ntmps213;go_wp2_with fail;refine HN.out.mono ?_;rintro r w1 ⟨rfl,hrd,hb1⟩;have F1:Blk w1 w.heap.size 58 #[.int .i64 0,.int .i64 0]:=Blk.later zB hb1;have hbw1:Below w.heap.size w w1:=zA;have hgl:=hrd.blk.lt;simp at hrd hgl;have HRD:=hid hrd;have HLS:=hid (hLS.out w1 hrd);clear hrd hb1;go_wp2_with fail;refine HLS.out.mono ?_;rintro r w2 ⟨v,rfl,hr,hst⟩;obtain⟨aD,cD,hv,hr2,_⟩:=At hr;simp only[Ai,As] at hv;subst hv;have HST:=hid hst;have HR:=hid hr2;have hs2:=hst.size;have F2:=F1.tch hst.2 zD;have hbw2:Below w.heap.size w w2:=hbw1.trans (hst.below zD zD);have HFA:=hid (Hr w2 hst.1);clear hr hr2 hst F1;go_wp2_with fail;refine HFA.out.mono ?_;rintro r w3 ⟨rfl,hb3⟩;have F3:=F2.later hb3;have hG:=CN (w3.alloc (.cells #[.int .i64 s1.k,.int .i64 s1.f] 58)) s1.k s1.f;rw[d1] at hG;have HG:=hid hG;have hbw3:=Ag hb3 hbw2;clear hG d1;go_wp2_with fail;refine HG.out.mono ?_;rintro r w4 ⟨rfl,hb4⟩;have F4:=(F3.alloc _).later hb4;obtain⟨y0,y1,g0,g1,l1⟩:=A1 F4;have hb24:Below w2.heap.size w2 w4:=zA;have hbw4:=Ag hb24 hbw2;have HST4:=hid (HST.out.then hb24);have hs4:=hb24.size;obtain⟨z0,z1,e0,e1,l2⟩:=A1 (Blk.later (Blk.newAt w3 _ _ rfl) hb4);clear F2 F3 F4;go_wp2_with fail;go_region
  all_goals
   go_wp2;refine Af (v:=.tuple #[.slice none 0 0,.int .i64 0,.agg #[.int .i64 s1.k,.int .i64 s1.f]]) zC0 rfl ⟨_,rfl,AT rfl rfl zD,zA⟩
theorem Rs.Fk(h:s.ok B.length)(most:Int):(s.loose B most).1.ok B.length:=by
 have hb:=Rs.Gl (B:=B) (Rs.Eh h (m:=min most 1048576));unfold Rs.loose;split
 ·split
  ·split
   ·exact Rs.GI hb _
   ·exact Rs.GI hb _
  ·split
   ·split
    ·exact Rs.SD hb _
    ·exact Rs.SD hb _
   ·exact Rs.BH hb zD
 ·exact hb
def Rs.DZ(B:List UInt8):Nat→Rs→Int→List Int→Rs × List Int
 | 0,s,_,out=>(s,out)
 | n+1,s,below,out=>
  if (s.num B).1.k=0 then
   (if below≤((s.num B).2:Int) then ((s.num B).1.fail 13 s.p,[]) else Rs.DZ B n (s.num B).1 (below-(s.num B).2-1) (out++[below-(s.num B).2-1]))
  else ((s.num B).1,[])
def Rs.delta(B:List UInt8)(s:Rs)(below:Int)(most:Int):Rs × List Int:=Rs.DZ B (s.int B most).2 (s.int B most).1 below []
def Rs.stream(B:List UInt8)(s:Rs)(prev:Option Int):Rs × Int:=
 match prev with
 | none=>((s.num B).1,((s.num B).2:Int))
 | some q=>(if 18446744073709551615-q≤((s.num B).2:Int) then (s.num B).1.fail 13 s.p else (s.num B).1,((s.num B).2:Int)+q+1)
def Rs.Co(B:List UInt8)(pos:Int):Nat→Rs→Option Int→List BS→Rs × List BS
 | 0,s,_,out=>(s,out)
 | n+1,s,prev,out=>
  if ((s.stream B prev).1.delta B pos 4).1.k=0 then Rs.Co B pos n ((s.stream B prev).1.delta B pos 4).1 (some (s.stream B prev).2) (out++[⟨(s.stream B prev).2,((s.stream B prev).1.delta B pos 4).2⟩])
  else (((s.stream B prev).1.delta B pos 4).1,[])
def Rs.links(B:List UInt8)(s:Rs)(pos:Int):Rs × List BS:=Rs.Co B pos (s.int B 16).2 (s.int B 16).1 none []
def Rs.ep(B:List UInt8)(s:Rs):Rs × Nat:=if (s.num B).1.k=0 then (if epR ((s.num B).2:Int)=true then s.num B else ((s.num B).1.fail 3 s.p,0)) else ((s.num B).1,0)
def Rs.po(B:List UInt8)(s:Rs):Rs × Nat:=if (s.num B).1.k=0 then (if poR ((s.num B).2:Int)=true then s.num B else ((s.num B).1.fail 3 s.p,0)) else ((s.num B).1,0)
def CG(B:List UInt8)(s:Rs):Rs × List UInt8 × Bool:=((Rs.strict (s.loose B 1048576)).1,(Rs.strict (s.loose B 1048576)).2,true)
def DB(B:List UInt8)(s:Rs):Rs × List UInt8 × Bool:=s.loose B 1048576
theorem II{c:UInt8}(h:n=c.toNat):UInt8.ofNat n=c:=by
 subst h;exact UInt8.ofNat_toNat
theorem KW:∀(l:List UInt8) (i x v u:Nat),i≤9→C5 i x l=(v,u,0)→∃y,v=x+y*128^i∧(0<i→0<y)∧l.take (u-i)=FM (9-i) y∧i<u∧u-i≤l.length
 | [],i,x,v,u,_,h=>by simp[C5] at h
 | c::l,i,x,v,u,hi,h=>by
  have hc:=c.toNat_lt;unfold C5 at h;by_cases h1:i=9∧1<c.toNat
  ·rw[An h1] at h;simp at h
  ·rw[Ak h1] at h
   by_cases h2:0<i∧c.toNat=0
   ·rw[An h2] at h;simp at h
   ·rw[Ak h2] at h
    by_cases h3:c.toNat<128
    ·rw[An h3] at h
     simp only[A7,As] at h;obtain⟨rfl,rfl⟩:=h;refine⟨c.toNat,rfl,fun h=>zD,?_,zD,by rw[Bo];omega⟩;rw[show i+1-i=1 by omega,List.take_succ_cons,List.take_zero];obtain⟨f,hf⟩:∃f,f=9-i:=⟨_,rfl⟩;rw[←hf];cases f with
     | zero=>simp only[FM];rw[II rfl]
     | succ f=>simp only[FM];rw[An h3,II rfl]
    ·rw[Ak h3] at h
     have hi9:i<9:=by
      rcases Bm i 9 with h | h
      ·exact h
      ·exact absurd ⟨zD,zD⟩ h1
     obtain⟨y,hv,hy,ht,hu,hlu⟩:=KW l (i+1) _ v u zD h;have hy0:=hy zD;refine⟨c.toNat%128+128*y,?_,fun _=>zD,?_,zD,by rw[Bo];omega⟩
     ·rw[hv,FE,Nat.add_mul]
      generalize 128^i=k;rw[Nat.mul_comm k 128,←Nat.mul_assoc y 128 k,Nat.mul_comm y 128];omega
     ·rw[show u-i=(u-(i+1))+1 by omega,List.take_succ_cons,ht,show 9-i=(9-(i+1))+1 by omega]
      simp only[FM];rw[Ak zD,II (c:=c) zD,show (c.toNat%128+128*y)/128=y by omega]
theorem Rs.My(hs:s.ok B.length)(h:(s.num B).1.k=0):B.drop s.p=A5 (s.num B).2++B.drop (s.num B).1.p∧(s.num B).1.f=0:=by
 have hm:=Rs.Hv h;have hle:=hs.le;unfold Rs.num at*;rw[An hm.2] at*;dsimp only at h ⊢;obtain⟨y,hv,_,ht,hu,hlu⟩:=KW (B.drop s.p) 0 0 _ _ zD (show C5 0 0 (B.drop s.p)=((C5 0 0 (B.drop s.p)).1,(C5 0 0 (B.drop s.p)).2.1,0) from by rw[←h]);simp only[Nat.pow_zero,Ef,Cb,Nat.sub_zero] at hv ht;refine⟨?_,by rw[An h]⟩;have:A5 (C5 0 0 (B.drop s.p)).1=(B.drop s.p).take (C5 0 0 (B.drop s.p)).2.1:=by rw[ht,hv];rfl
 rw[this,←List.drop_drop,List.take_append_drop]
theorem Rs.Sb{m:Int}(hs:s.ok B.length)(h:(s.int B m).1.k=0):B.drop s.p=A5 (s.int B m).2++B.drop (s.int B m).1.p∧((s.int B m).2:Int)≤m∧s.k=0:=by
 unfold Rs.int Rs.most at*;by_cases h0:0≤m
 ·rw[An h0] at h ⊢
  by_cases h1:m.toNat<(s.num B).2
  ·rw[An h1] at h;exact absurd h (Rs.BV zD)
  ·rw[Ak h1] at h ⊢
   exact⟨(Rs.My hs h).1,zD,(Rs.Hv h).2⟩
 ·rw[Ak h0] at h;exact absurd h (Rs.BV zD)
theorem Rs.OH:∀(n:Nat) (s:Rs) (below:Int) (out:List Int),s.ok B.length→(Rs.DZ B n s below out).1.ok B.length
 | 0,s,below,out,h=>h
 | n+1,s,below,out,h=>by
  simp only[Rs.DZ];split
  ·split
   ·exact Rs.BH (Rs.CC h) zD
   ·exact Rs.OH n _ _ _ (Rs.CC h)
  ·exact Rs.CC h
theorem Rs.F6{below most:Int}(h:s.ok B.length):(s.delta B below most).1.ok B.length:=Rs.OH _ _ _ _ (Rs.Eh h)
theorem Rs.JE{prev:Option Int}(h:s.ok B.length):(s.stream B prev).1.ok B.length:=by
 unfold Rs.stream;cases prev with
 | none=>exact Rs.CC h
 | some q=>
  dsimp only;split
  ·exact Rs.BH (Rs.CC h) zD
  ·exact Rs.CC h
theorem Rs.MC{pos:Int}:∀(n:Nat) (s:Rs) (prev:Option Int) (out:List BS),s.ok B.length→(Rs.Co B pos n s prev out).1.ok B.length
 | 0,s,prev,out,h=>h
 | n+1,s,prev,out,h=>by
  simp only[Rs.Co];split
  ·exact Rs.MC n _ _ _ (Rs.F6 (Rs.JE h))
  ·exact Rs.F6 (Rs.JE h)
theorem Rs.Ol{pos:Int}(h:s.ok B.length):(s.links B pos).1.ok B.length:=Rs.MC _ _ _ _ (Rs.Eh h)
theorem Rs.Kq:∀(n:Nat) (s:Rs) (below:Int) (out:List Int),s.ok B.length→below≤18446744073709551615→(Rs.DZ B n s below out).1.k=0→
  ∃l:List Int,(Rs.DZ B n s below out).2=out++l∧l.length=n∧Ev below l=true∧(∀x∈l,0≤x)∧B.drop s.p=Je (EH below l)++B.drop (Rs.DZ B n s below out).1.p∧s.k=0
 | 0,s,below,out,hs,_,h=>⟨[],by simp[Rs.DZ],rfl,rfl,zP,by simp[Rs.DZ,EH,Je],h⟩
 | n+1,s,below,out,hs,hb,h=>by
  simp only[Rs.DZ] at h ⊢;by_cases h1:(s.num B).1.k=0
  ·rw[An h1] at h ⊢
   by_cases h2:below≤((s.num B).2:Int)
   ·rw[An h2] at h;exact absurd h (Rs.BV zD)
   ·rw[Ak h2] at h ⊢
    obtain⟨l,e1,e2,e3,e4,e5,_⟩:=Rs.Kq n _ _ _ (Rs.CC hs) zD h;have hc:=(Rs.My hs h1).1;refine⟨(below-(s.num B).2-1)::l,?_,by simp[e2],?_,?_,?_,(Rs.Hv h1).2⟩
    ·rw[e1];simp
    ·simp only[Ev];rw[e3,Bool.and_true];exact Ae zD
    ·intro x hx
     rcases List.mem_cons.1 hx with rfl | hx
     ·omega
     ·exact e4 x hx
    ·simp only[EH]
     rw[Ll,CF,←e5,show (below-(below-((s.num B).2:Int)-1)-1).toNat=(s.num B).2 by omega];exact hc
  ·rw[Ak h1] at h;exact absurd h h1
theorem Rs.OM{B:List UInt8}{s:Rs}{below most:Int}(hs:s.ok B.length)(hb:below≤18446744073709551615)(h:(s.delta B below most).1.k=0):
  Ev below (s.delta B below most).2=true∧((s.delta B below most).2.length:Int)≤most∧(∀x∈(s.delta B below most).2,0≤x)∧B.drop s.p=LD below (s.delta B below most).2++B.drop (s.delta B below most).1.p∧s.k=0:=by
 unfold Rs.delta at*;obtain⟨l,e1,e2,e3,e4,e5,e6⟩:=Rs.Kq _ _ _ _ (Rs.Eh hs) hb h;have hi:=Rs.Sb hs e6;rw[BU] at e1;rw[e1];refine⟨e3,by rw[e2];exact hi.2.1,e4,?_,hi.2.2⟩;unfold LD;rw[CF,←e5,e2];exact hi.1
structure CY(w W:World)(g:Nat)(B:List UInt8)(a:Option Addr)(s:Rs):Prop where
 rd:AY W g B a s
 dat:Ah.r (fun q=>q<w.heap.size∧q≠g) W [.slice a B.length B.length] B
 tch:Tch (·=g) w W
 lt:g<w.heap.size
section
variable {w W W':World} {g:Nat} {B:List UInt8} {a:Option Addr} {s s':Rs}
theorem CY.refl(h:AY w g B a s):CY w w g B a s:=⟨h,h.dat,Tch.refl _ _,h.blk.lt⟩
theorem CY.step(h:CY w W g B a s)(k:AB W g B a s' W'):CY w W' g B a s':=
 ⟨k.1,Ah.keep h.dat fun q hq=>k.2.block q (Am hq.1 h.tch.size) hq.2,h.tch.trans k.2 fun _ _ h=>h,h.lt⟩
theorem CY.row(h:CY w W g B a s)(hb:Below w.heap.size W W'):CY w W' g B a s:=by
 have hd:=Ah.keep h.dat (w':=W') fun q hq=>hb.block q hq.1;have hs:=h.tch.size;have hs2:=hb.size;exact⟨⟨h.rd.blk.below hb h.lt,Ah.mono hd fun q hq=>⟨zD,hq.2⟩,h.rd.ok⟩,hd,h.tch.trans (Tch.FU hb) (fun b hb hle=>zD),h.lt⟩
theorem CY.to(h:CY w W g B a s):AB w g B a s W:=⟨h.rd,h.tch⟩
theorem Fh(h:W.ownsRow base e size v n xs)(hg:g<base)(hb:Tch (·=g) W W'):W'.ownsRow base e size v n xs:=by
 refine⟨h.1,?_⟩;rcases h.2 with h0 | ⟨g',cap,cur,h1,h2,h3,h4⟩
 ·exact .inl h0
 ·exact .inr ⟨g',cap,cur,h1,h2,(hb.block _ (Blk.lt h3) zD).trans h3,h4⟩
end
theorem IS(w:World){g:Nat}{B:List UInt8}{a:Option Addr}{s:Rs}(h:AY w g B a s)(hB:B.length≤1000000000)(below:Int)(hbl:0≤below∧below≤18446744073709551615)(most:Int)(hmo:0≤most∧most≤1000):
  Calls Tryz.prog 234 #[.pointer (some ⟨g,0,none⟩),.int .u64 below,.int .i64 most] w fun r w'=>∃v,r=.returned v∧AV.r (fun q=>w.heap.size≤q∧q<w'.heap.size) w' [v] (s.delta B below most).2∧AB w g B a (s.delta B below most).1 w':=by
 obtain⟨i0,hi,hz0,hz1,hz2⟩:=Bc Oz;have HI:=hid (DR w h zD most zD);have hNm:=Rs.FW (B:=B) (s:=s) (m:=most);have hlt:=h.blk.lt;have HIN:=hid (CY.refl h);unfold Rs.delta;generalize s.int B most=I at*;obtain⟨s1,N⟩:=I;dsimp only at*;have hN:N≤1000:=zD;clear h;go_enter Tryz.func234,Tryz.ntmps234;go_wp2_with fail;refine HI.out.mono ?_;rintro r w1 ⟨rfl,hst⟩;have HIN1:=hid (HIN.out.step hst);clear hst;go_wp2_with fail;go_loopw [1,7,13] (fun b v i wr=>∃(k:Nat) (bel:Int) (J:List Int) (st:Rs),k≤N∧i=.int .i64 k∧b=.int .u64 bel∧0≤bel∧bel≤18446744073709551615∧Hid (J.length=k)∧wr.ownsRow w.heap.size 22 1 v J.length (Bu J)∧Hid (∀x∈J,0≤x∧x≤18446744073709551615)∧Hid (CY w wr g B a st)∧Hid (Rs.DZ B N s1 below []=Rs.DZ B (N-k) st bel J)) (fun _ _ i _=>N-(intOf i).toNat)
 case atStart=>exact ⟨0,below,[],s1,Ao _,rfl,rfl,hbl.1,hbl.2,hid rfl,⟨rfl,.inl ⟨rfl,rfl⟩⟩,hid zP,HIN1,hid rfl⟩
 case round=>
  obtain⟨k,bel,J,st,hk,rfl,rfl,hb0,hb1,hJl,hown,hJb,hin,hsp⟩:=hrel;obtain⟨av,cv,rfl⟩:=AX hown;have hJ9:J.length≤1000:=zA5;rcases Bm k N with hlt2 | hge
  ·have HAT:=hid (Cc wr hin.out.rd)
   have HVR:=hid (CH wr hin.out.rd zD);have hx:=Rs.Cp (B:=B) (s:=st);have hxb:=Rs.Gg (B:=B) (s:=st);have hstep:Rs.DZ B (N-k) st bel J=(if (st.num B).1.k=0 then (if bel≤((st.num B).2:Int) then ((st.num B).1.fail 13 st.p,[]) else Rs.DZ B (N-(k+1)) (st.num B).1 (bel-(st.num B).2-1) (J++[bel-(st.num B).2-1])) else ((st.num B).1,[])):=by
    rw[show N-k=(N-(k+1))+1 by omega];rfl
   have HO:=hid hown;have i1:(k:Int)<(N:Int):=zD;have d1:decide ((k:Int)<(N:Int))=true:=Ae i1;have d1':decide (k<N)=true:=Ae hlt2;generalize st.num B=R at*;obtain⟨st1,x⟩:=R;dsimp only at*;have HBAD:=hid hxb;clear hown hxb;by_cases hk1:st1.k=0
   ·rw[An hk1] at hstep
    by_cases hbx:bel≤(x:Int)
    ·rw[An hbx] at hstep
     have d2:decide (bel≤(x:Int))=true:=Ae hbx;have hfk:(st1.fail 13 st.p).k≠0:=Rs.BV zD;have HSP:=hid (hsp.out.trans hstep);clear hstep hsp hk1;go_wp2_with fail;refine HAT.out.mono ?_;rintro r w2 ⟨rfl,rfl⟩;go_wp2_with fail;refine HVR.out.mono ?_;rintro r w3 ⟨rfl,hst3⟩;have HIN3:=hid (hin.out.step hst3);clear hst3;go_wp2_with fail;refine (Br w3 HIN3.out.rd 13 (st.p:Int) zD).mono ?_;rintro r w4 ⟨rfl,hst4⟩;have HIN4:=hid (HIN3.out.step hst4);have hg:=AG w4 HIN4.out.rd;rw[Ad hfk] at hg;have HG:=hid hg;clear hst4 hg hfk;go_wp2_with fail;refine HG.out.mono ?_;rintro r w5 ⟨rfl,hb5⟩;have HE:=hid (HIN4.out.to.then hb5);go_wp2;go_ret;rw[HSP.out];exact⟨_,rfl,AZ (xs:=[]) rfl (Aj _) (Ao _) (.inl rfl),HE.out⟩
    ·rw[Ak hbx] at hstep
     have d2:decide (bel≤(x:Int))=false:=Ad hbx;have HSP:=hid (hsp.out.trans hstep);have w1':0≤bel-((x:Int)+1):=zD;have w2':(x:Int)+1≤18446744073709551615:=zD;have hk1':decide (st1.k=0)=true:=Ae hk1;clear hstep hsp hk1;go_wp2_with fail;refine HAT.out.mono ?_;rintro r w2 ⟨rfl,rfl⟩;go_wp2_with fail;refine HVR.out.mono ?_;rintro r w3 ⟨rfl,hst3⟩;have HIN3:=hid (hin.out.step hst3);have HO3:=hid (Fh HO.out hlt hst3.2);have hg:=AG w3 HIN3.out.rd;rw[hk1'] at hg;have HG:=hid hg;clear hst3 hg hk1';go_wp2_with fail;refine HG.out.mono ?_;rintro r w4 ⟨rfl,hb4⟩;have HIN4:=hid (HIN3.out.step (AB.later HIN3.out.rd hb4));have HO4:=hid (AR HO3.out hb4);have hsz4:=HIN4.out.tch.size;clear hb4;go_wp2_with (at_builtin;go_loud (refine Ar rfl _ _ _ rfl w.heap.size 22 i0 (.int .u64 0) 1 8 DN hi hz0 hz1 hz2 rfl zS (.slice av J.length cv) J.length _ rfl (AR HO4.out zA) (some ⟨w4.heap.size,0,none⟩) 1 1 [.int .u64 (bel-((x:Int)+1))] rfl (Bf _ 22 _ rfl zP rfl) zAf zR zD zM ?_;intro v' w5 hown5 hgrow5 hat5;obtain⟨a5,c5,rfl⟩:=AX hown5;have HO5:=hid hown5;have hb5:Below w.heap.size w4 w5:=(Below.grown ((by (repeat (first | with_reducible exact Below.refl _ _ | with_reducible assumption | (with_reducible refine Aw ?_ _) | (with_reducible refine Below.setCell ?_ zE _) | (with_reducible refine Below.drew ?_) | (with_reducible refine below_drewN ?_ _) | (refine Ag zI ?_))):Below w4.heap.size w4 _).mono hsz4) hgrow5 zM (fun g e=>(HO4.out.lt g e).1));clear hown5 hgrow5 hat5))
     have HIN5:=hid (HIN4.out.row hb5);have ho5:w5.ownsRow w.heap.size 22 1 (.slice a5 (J.length+1) c5) (J++[bel-((x:Int)+1)]).length (Bu (J++[bel-((x:Int)+1)])):=by
      have e:Bu (J++[bel-((x:Int)+1)])=Bu J++[.int .u64 (bel-((x:Int)+1))]:=zA7;rw[e,Au];exact HO5.out
     have HO6:=hid ho5;have HB6:Hid (∀y∈J++[bel-((x:Int)+1)],0≤y∧y≤18446744073709551615):=hid (fun y hy=>by
      rw[Ci,Bw] at hy;rcases hy with hy | rfl
      ·exact hJb.out y hy
      ·omega)
     have HSP6:Hid (Rs.DZ B N s1 below []=Rs.DZ B (N-(k+1)) st1 (bel-((x:Int)+1)) (J++[bel-((x:Int)+1)])):=hid (by rw[HSP.out,show bel-(x:Int)-1=bel-((x:Int)+1) by omega]);clear ho5;go_roundw
     case rel=>exact ⟨k+1,bel-((x:Int)+1),J++[bel-((x:Int)+1)],st1,zD,zZ,rfl,zD,zD,hid zCl,HO6.out,HB6,HIN5,HSP6⟩
     case measure=>simp [intOf];omega
   ·rw[Ak hk1] at hstep
    have HSP:=hid (hsp.out.trans hstep);have hx0:=HBAD.out hk1;subst hx0;have hk1':decide (st1.k=0)=false:=Ad hk1;have hfid:st1.fail 13 st.p=st1:=Rs.Bl hk1;clear hstep hsp hk1;by_cases hbx:bel≤0
    ·have d2:decide (bel≤((0:Nat):Int))=true:=Ae zD
     have d2':decide (bel≤0)=true:=Ae hbx;go_wp2_with fail;refine HAT.out.mono ?_;rintro r w2 ⟨rfl,rfl⟩;go_wp2_with fail;refine HVR.out.mono ?_;rintro r w3 ⟨rfl,hst3⟩;have HIN3:=hid (hin.out.step hst3);clear hst3;go_wp2_with fail;refine (Br w3 HIN3.out.rd 13 (st.p:Int) zD).mono ?_;rintro r w4 ⟨rfl,hst4⟩;rw[hfid] at hst4;have HIN4:=hid (HIN3.out.step hst4);have hg:=AG w4 HIN4.out.rd;rw[hk1'] at hg;have HG:=hid hg;clear hst4 hg hk1' hfid;go_wp2_with fail;refine HG.out.mono ?_;rintro r w5 ⟨rfl,hb5⟩;have HE:=hid (HIN4.out.to.then hb5);go_wp2;go_ret;rw[HSP.out];exact⟨_,rfl,AZ (xs:=[]) rfl (Aj _) (Ao _) (.inl rfl),HE.out⟩
    ·have d2:decide (bel≤((0:Nat):Int))=false:=Ad zD
     have d2':decide (bel≤0)=false:=Ad hbx;go_wp2_with fail;refine HAT.out.mono ?_;rintro r w2 ⟨rfl,rfl⟩;go_wp2_with fail;refine HVR.out.mono ?_;rintro r w3 ⟨rfl,hst3⟩;have HIN3:=hid (hin.out.step hst3);have hg:=AG w3 HIN3.out.rd;rw[hk1'] at hg;have HG:=hid hg;clear hst3 hg hk1' hfid;go_wp2_with fail;refine HG.out.mono ?_;rintro r w5 ⟨rfl,hb5⟩;have HE:=hid (HIN3.out.to.then hb5);go_wp2;go_ret;rw[HSP.out];exact⟨_,rfl,AZ (xs:=[]) rfl (Aj _) (Ao _) (.inl rfl),HE.out⟩
  ·obtain rfl:k=N:=by omega
   have d1:decide ((k:Int)<(k:Int))=false:=Ad zD;have HSP:Hid (Rs.DZ B k s1 below []=(st,J)):=hid (by rw[hsp.out,Dg];rfl);have HV:=hid (FT hJb.out rfl hown);have HE:=hid hin.out.to;clear hown hsp;go_wp2;go_ret;rw[HSP.out];exact⟨_,rfl,HV.out,HE.out⟩
theorem Rs.Lu{m:Int}(h:s.k≠0):s.int B m=(s,0):=by
 unfold Rs.int Rs.most;rw[Rs.Dh h];split
 ·rw[Ak zH]
 ·rw[Rs.Bl h]
theorem Rs.EL{pos m:Int}(h:s.k≠0):s.delta B pos m=(s,[]):=by
 unfold Rs.delta;rw[Rs.Lu h];rfl
theorem Rs.OR(h:s.k≠0):s.byte B=(s,0):=by
 unfold Rs.byte;rw[Rs.Hj h];rfl
theorem Rs.Jl{m:Int}(h:s.k≠0):s.loose B m=(s,[],false):=by
 unfold Rs.loose;rw[Rs.Lu h];dsimp only;rw[Rs.OR h];dsimp only;rw[Ak h]
theorem L8(w:World){g:Nat}{B:List UInt8}{a:Option Addr}{s:Rs}(h:AY w g B a s)(hB:B.length≤1000000000):
  Calls Tryz.prog 231 #[.pointer (some ⟨g,0,none⟩),.func (Fn.func 113) #[] #[]] w fun r w'=>r=.returned (.int .u64 ((s.ep B).2:Int))∧AB w g B a (s.ep B).1 w':=by
 have HAT:=hid (Cc w h);have HVR:=hid (CH w h zD);have hxb:=Rs.Gg (B:=B) (s:=s);have HIN:=hid (CY.refl h);unfold Rs.ep;generalize s.num B=R at*;obtain⟨st1,x⟩:=R;dsimp only at*;have HRT:=hid (fun (W:World)=>Fm (x:Int) W);have HBAD:=hid hxb;clear h hxb;by_cases hk1:st1.k=0
 ·rw[An hk1]
  by_cases hr:epR (x:Int)=true
  ·rw[An hr]
   rw[hr] at HRT;have HK:Hid (decide (st1.k=0)=true):=hid (Ae hk1);clear hk1 hr;go_enter G2,Gc;go_wp2_with fail;refine HAT.out.mono ?_;rintro r w2 ⟨rfl,rfl⟩;go_wp2_with fail;refine HVR.out.mono ?_;rintro r w3 ⟨rfl,hst3⟩;have HIN3:=hid (HIN.out.step hst3);clear hst3;go_wp2_with fail;refine (HRT.out w3).mono ?_;rintro r w3' ⟨rfl,rfl⟩;go_wp2_with fail;refine ((by have:=AG w3 HIN3.out.rd;rw[HK.out] at this;exact this:Calls Tryz.prog 44 #[.pointer (some ⟨g,0,none⟩)] w3 fun r w'=>r=.returned (.bool true)∧Below w3.heap.size w3 w')).mono ?_;rintro r w5 ⟨rfl,hb5⟩;have HE:=hid (HIN3.out.to.then hb5);go_wp2;go_ret;exact⟨rfl,HE.out⟩
  ·rw[Ak hr]
   rw[Bool.eq_false_iff.2 hr] at HRT;have hfk:(st1.fail 3 s.p).k≠0:=Rs.BV zD;clear hk1 hr;go_enter G2,Gc;go_wp2_with fail;refine HAT.out.mono ?_;rintro r w2 ⟨rfl,rfl⟩;go_wp2_with fail;refine HVR.out.mono ?_;rintro r w3 ⟨rfl,hst3⟩;have HIN3:=hid (HIN.out.step hst3);clear hst3;go_wp2_with fail;refine (HRT.out w3).mono ?_;rintro r w3' ⟨rfl,rfl⟩;go_wp2_with fail;refine (Br w3 HIN3.out.rd 3 (s.p:Int) zD).mono ?_;rintro r w4 ⟨rfl,hst4⟩;have HIN4:=hid (HIN3.out.step hst4);have hg:=AG w4 HIN4.out.rd;rw[Ad hfk] at hg;have HG:=hid hg;clear hst4 hg hfk;go_wp2_with fail;refine HG.out.mono ?_;rintro r w5 ⟨rfl,hb5⟩;have HE:=hid (HIN4.out.to.then hb5);go_wp2;go_ret;exact⟨rfl,HE.out⟩
 ·rw[Ak hk1]
  have hx0:=HBAD.out hk1;subst hx0;have hfk:st1.k≠0:=hk1;have hfid:st1.fail 3 s.p=st1:=Rs.Bl hk1;rw[show epR ((0:Nat):Int)=false from zS] at HRT;clear hk1;go_enter G2,Gc;go_wp2_with fail;refine HAT.out.mono ?_;rintro r w2 ⟨rfl,rfl⟩;go_wp2_with fail;refine HVR.out.mono ?_;rintro r w3 ⟨rfl,hst3⟩;have HIN3:=hid (HIN.out.step hst3);clear hst3;go_wp2_with fail;refine (HRT.out w3).mono ?_;rintro r w3' ⟨rfl,rfl⟩;go_wp2_with fail;refine (Br w3 HIN3.out.rd 3 (s.p:Int) zD).mono ?_;rintro r w4 ⟨rfl,hst4⟩;rw[hfid] at hst4;clear hfid;have HIN4:=hid (HIN3.out.step hst4);have hg:=AG w4 HIN4.out.rd;rw[Ad hfk] at hg;have HG:=hid hg;clear hst4 hg hfk;go_wp2_with fail;refine HG.out.mono ?_;rintro r w5 ⟨rfl,hb5⟩;have HE:=hid (HIN4.out.to.then hb5);go_wp2;go_ret;exact⟨rfl,HE.out⟩
theorem IQ(w:World){g:Nat}{B:List UInt8}{a:Option Addr}{s:Rs}(h:AY w g B a s)(hB:B.length≤1000000000):
  Calls Tryz.prog 209 #[.pointer (some ⟨g,0,none⟩)] w fun r w'=>r=.returned (.int .u64 ((s.ep B).2:Int))∧AB w g B a (s.ep B).1 w':=by
 have HR:=hid (L8 w h hB);generalize s.ep B=R at*;clear h;go_enter Tryz.func209,Tryz.ntmps209;go_wp2_with fail;refine HR.out.mono ?_;rintro r w1 ⟨rfl,hst⟩;have HST:=hid hst;clear hst;go_wp2;go_ret;exact⟨rfl,HST.out⟩
theorem L6(w:World){g:Nat}{B:List UInt8}{a:Option Addr}{s:Rs}(h:AY w g B a s)(hB:B.length≤1000000000):
  Calls Tryz.prog 231 #[.pointer (some ⟨g,0,none⟩),.func (Fn.func 82) #[] #[]] w fun r w'=>r=.returned (.int .u64 ((s.po B).2:Int))∧AB w g B a (s.po B).1 w':=by
 have HAT:=hid (Cc w h);have HVR:=hid (CH w h zD);have hxb:=Rs.Gg (B:=B) (s:=s);have HIN:=hid (CY.refl h);unfold Rs.po;generalize s.num B=R at*;obtain⟨st1,x⟩:=R;dsimp only at*;have HRT:=hid (fun (W:World)=>JU (x:Int) W);have HBAD:=hid hxb;clear h hxb;by_cases hk1:st1.k=0
 ·rw[An hk1]
  by_cases hr:poR (x:Int)=true
  ·rw[An hr]
   rw[hr] at HRT;have HK:Hid (decide (st1.k=0)=true):=hid (Ae hk1);clear hk1 hr;go_enter G2,Gc;go_wp2_with fail;refine HAT.out.mono ?_;rintro r w2 ⟨rfl,rfl⟩;go_wp2_with fail;refine HVR.out.mono ?_;rintro r w3 ⟨rfl,hst3⟩;have HIN3:=hid (HIN.out.step hst3);clear hst3;go_wp2_with fail;refine (HRT.out w3).mono ?_;rintro r w3' ⟨rfl,rfl⟩;go_wp2_with fail;refine ((by have:=AG w3 HIN3.out.rd;rw[HK.out] at this;exact this:Calls Tryz.prog 44 #[.pointer (some ⟨g,0,none⟩)] w3 fun r w'=>r=.returned (.bool true)∧Below w3.heap.size w3 w')).mono ?_;rintro r w5 ⟨rfl,hb5⟩;have HE:=hid (HIN3.out.to.then hb5);go_wp2;go_ret;exact⟨rfl,HE.out⟩
  ·rw[Ak hr]
   rw[Bool.eq_false_iff.2 hr] at HRT;have hfk:(st1.fail 3 s.p).k≠0:=Rs.BV zD;clear hk1 hr;go_enter G2,Gc;go_wp2_with fail;refine HAT.out.mono ?_;rintro r w2 ⟨rfl,rfl⟩;go_wp2_with fail;refine HVR.out.mono ?_;rintro r w3 ⟨rfl,hst3⟩;have HIN3:=hid (HIN.out.step hst3);clear hst3;go_wp2_with fail;refine (HRT.out w3).mono ?_;rintro r w3' ⟨rfl,rfl⟩;go_wp2_with fail;refine (Br w3 HIN3.out.rd 3 (s.p:Int) zD).mono ?_;rintro r w4 ⟨rfl,hst4⟩;have HIN4:=hid (HIN3.out.step hst4);have hg:=AG w4 HIN4.out.rd;rw[Ad hfk] at hg;have HG:=hid hg;clear hst4 hg hfk;go_wp2_with fail;refine HG.out.mono ?_;rintro r w5 ⟨rfl,hb5⟩;have HE:=hid (HIN4.out.to.then hb5);go_wp2;go_ret;exact⟨rfl,HE.out⟩
 ·rw[Ak hk1]
  have hx0:=HBAD.out hk1;subst hx0;have hfk:st1.k≠0:=hk1;have hfid:st1.fail 3 s.p=st1:=Rs.Bl hk1;rw[show poR ((0:Nat):Int)=true from zS] at HRT;clear hk1;go_enter G2,Gc;go_wp2_with fail;refine HAT.out.mono ?_;rintro r w2 ⟨rfl,rfl⟩;go_wp2_with fail;refine HVR.out.mono ?_;rintro r w3 ⟨rfl,hst3⟩;have HIN3:=hid (HIN.out.step hst3);clear hst3;go_wp2_with fail;refine (HRT.out w3).mono ?_;rintro r w3' ⟨rfl,rfl⟩;go_wp2_with fail;refine ((by have:=AG w3 HIN3.out.rd;rw[Ad hfk] at this;exact this:Calls Tryz.prog 44 #[.pointer (some ⟨g,0,none⟩)] w3 fun r w'=>r=.returned (.bool false)∧Below w3.heap.size w3 w')).mono ?_;rintro r w5 ⟨rfl,hb5⟩;have HE:=hid (HIN3.out.to.then hb5);clear hfk hfid;go_wp2;go_ret;exact⟨rfl,HE.out⟩
theorem L1(w:World){g:Nat}{B:List UInt8}{a:Option Addr}{s:Rs}(h:AY w g B a s)(hB:B.length≤1000000000):
  Calls Tryz.prog 183 #[.pointer (some ⟨g,0,none⟩)] w fun r w'=>r=.returned (.int .u64 ((s.po B).2:Int))∧AB w g B a (s.po B).1 w':=by
 have HR:=hid (L6 w h hB);generalize s.po B=R at*;clear h;go_enter Tryz.func183,Tryz.ntmps183;go_wp2_with fail;refine HR.out.mono ?_;rintro r w1 ⟨rfl,hst⟩;have HST:=hid hst;clear hst;go_wp2;go_ret;exact⟨rfl,HST.out⟩
theorem AD.KZ{w w':World}{α:Type}{lo g:Nat}{A:Rp α}{e:TypeId}{sz:Nat}{v:Value}{xs:List α}(h:AD lo A lo e sz w v xs)(hb:Tch (fun b=>b=g∨w.heap.size≤b) w w')(hg:g<lo):AD lo A lo e sz w' v xs:=by
 have hk:∀b,lo≤b→b<w.heap.size→w'.heap[b]? =w.heap[b]? :=fun b h1 h2=>hb.block b h2 zD;obtain⟨cells,ho,hlen,hsz,hA⟩:=h;refine⟨cells,⟨ho.1,?_⟩,hlen,hsz,fun i cs x hi hx=>A.mono (A.keep (hA i cs x hi hx) fun b h=>hk b h.1 h.2.1) fun b h=>⟨h.1,Am h.2.1 hb.size,h.2.2⟩⟩;rcases ho.2 with h0 | ⟨g',cap,cur,h1,h2,h3,h4⟩
 ·exact .inl h0
 ·exact .inr ⟨g',cap,cur,h1,h2,(hk _ h2 (Blk.lt h3)).trans h3,h4⟩
theorem AD.form{α:Type}{A:Rp α}{xs:List α}(h:AD lo A base e sz w v xs):∃a c,v=.slice a xs.length c:=by
 obtain⟨cells,h1,_⟩:=h;exact AX h1
theorem Un{z:Int}(h:0≤z∧z≤18446744073709551615):bits BinOp.xor IntKind.u64 IntKind.u64.max z=18446744073709551615-z:=by
 obtain⟨a,rfl⟩:=DO h.1;have ha:a<18446744073709551616:=zD;have e:IntKind.u64.max=((18446744073709551615:Nat):Int):=rfl;rw[e,bits_xor_u64_nat _ _ zS ha];have h1:18446744073709551615^^^a=18446744073709551615-a:=by
  have h2:=BitVec.toNat_not (x:=BitVec.ofNat 64 a);rw[BitVec.not_def,BitVec.toNat_xor,BitVec.toNat_allOnes,BitVec.toNat_ofNat,Dq zD] at h2;exact h2
 rw[h1];omega
theorem Sa(w:World)(h:AY w g B a s)(hB:B.length≤1000000000)(pos:Int)(hpos:0≤pos∧pos≤18446744073709551615):
  Calls Tryz.prog 192 #[.pointer (some ⟨g,0,none⟩),.int .u64 pos] w fun r w'=>∃v,r=.returned v∧Ig.r (CO w w') w' [v] (s.links B pos).2∧AB w g B a (s.links B pos).1 w':=by
 obtain⟨i0,hi,hz0,hz1,hz2⟩:=Bc OB;have HI:=hid (DR w h zD 16 zD);have hNm:=Rs.FW (B:=B) (s:=s) (m:=16);have hlt:=h.blk.lt;have HIN:=hid (CY.refl h);unfold Rs.links;generalize s.int B 16=I at*;obtain⟨s1,N⟩:=I;dsimp only at*;have hN:N≤16:=zD;clear h;go_enter Tryz.func192,Tryz.ntmps192;go_wp2_with fail;refine HI.out.mono ?_;rintro r w1 ⟨rfl,hst⟩;have HIN1:=hid (HIN.out.step hst);clear hst;go_wp2_with fail;go_loopw [5,12] (fun v i wr=>∃(k:Nat) (J:List BS) (st:Rs),k≤N∧i=.int .i64 k∧Hid (J.length=k)∧AD w.heap.size Gx w.heap.size 151 2 wr v J∧Hid (∀x∈J,0≤x.stream∧x.stream≤18446744073709551615)∧Hid (CY w wr g B a st)∧Hid (Rs.Co B pos N s1 none []=Rs.Co B pos (N-k) st (J.getLast?.map BS.stream) J)) (fun _ i _=>N-(intOf i).toNat)
 case atStart=>exact ⟨0,[],s1,Ao _,rfl,hid rfl,AD.nil,hid zP,HIN1,hid rfl⟩
 case round=>
  obtain⟨k,J,st,hk,rfl,hJl,hown,hJb,hin,hsp⟩:=hrel;obtain⟨av,cv,rfl⟩:=AD.form hown;rcases Bm k N with hlt2 | hge
  ·have HAT:=hid (Cc wr hin.out.rd)
   have HVR:=hid (CH wr hin.out.rd zD);have hx:=Rs.Cp (B:=B) (s:=st);have hsz0:=hin.out.tch.size;have i1:(k:Int)<(N:Int):=zD;have d1:decide ((k:Int)<(N:Int))=true:=Ae i1;have d1':decide (k<N)=true:=Ae hlt2;have HO:=hid hown;clear hown;have hJ16:J.length≤16:=zA5;by_cases hJe:J=[]
   ·have hstep:Rs.Co B pos (N-k) st (J.getLast?.map BS.stream) J=(if ((st.num B).1.delta B pos 4).1.k=0 then Rs.Co B pos (N-(k+1)) ((st.num B).1.delta B pos 4).1 (some ((st.num B).2:Int)) (J++[⟨((st.num B).2:Int),((st.num B).1.delta B pos 4).2⟩]) else (((st.num B).1.delta B pos 4).1,[])):=by
     rw[show N-k=(N-(k+1))+1 by omega,hJe];rfl
    have hk0:k=0:=by have:=hJl.out;rw[hJe] at this;simpa using this.symm
    subst hk0;clear hJe;generalize st.num B=R at*;obtain⟨st1,x⟩:=R;dsimp only at*;have hxb:(0:Int)≤(x:Int)∧(x:Int)≤18446744073709551615:=zD;have HD:=hid (fun (W:World) (hW:AY W g B a st1)=>IS W hW hB pos hpos 4 zD);generalize st1.delta B pos 4=D at*;obtain⟨s6,bk⟩:=D;dsimp only at*;go_wp2_with fail;refine HAT.out.mono ?_;rintro r w2 ⟨rfl,rfl⟩;go_wp2_with fail;refine HVR.out.mono ?_;rintro r w3 ⟨rfl,hst3⟩;have HIN3:=hid (hin.out.step hst3);have HO3:=hid (AD.KZ HO.out (hst3.2.mono fun b hb e=> .inl e) hlt);have hsz3:=HIN3.out.tch.size;clear hst3;go_wp2_with fail;refine (HD.out _ (HIN3.out.row ((by (repeat (first | with_reducible exact Below.refl _ _ | with_reducible assumption | (with_reducible refine Aw ?_ _) | (with_reducible refine Below.setCell ?_ zE _) | (with_reducible refine Below.drew ?_) | (with_reducible refine below_drewN ?_ _) | (refine Ag zI ?_))):Below w3.heap.size w3 _).mono hsz3)).rd).mono ?_;rintro r w6 ⟨v6,rfl,hv6,hst6⟩;obtain⟨a6,c6,hfv,_,_⟩:=At hv6;simp only[Ai,As] at hfv;subst hfv;have BK6:Blk w6 w3.heap.size 151 #[.int .u64 (x:Int),.slice none 0 0]:=Blk.tch zB hst6.2 zD;have HIN6:=hid ((HIN3.out.row ((by (repeat (first | with_reducible exact Below.refl _ _ | with_reducible assumption | (with_reducible refine Aw ?_ _) | (with_reducible refine Below.setCell ?_ zE _) | (with_reducible refine Below.drew ?_) | (with_reducible refine below_drewN ?_ _) | (refine Ag zI ?_))):Below w3.heap.size w3 _).mono hsz3)).step hst6);have HK6:Hid (Tch (fun b=>b=g∨w3.heap.size≤b) w3 w6):=hid ((Tch.FU (by (repeat (first | with_reducible exact Below.refl _ _ | with_reducible assumption | (with_reducible refine Aw ?_ _) | (with_reducible refine Below.setCell ?_ zE _) | (with_reducible refine Below.drew ?_) | (with_reducible refine below_drewN ?_ _) | (refine Ag zI ?_))):Below w3.heap.size w3 _)).mono (fun b hb e=> .inr e) |>.trans hst6.2 (fun b hb e=> .inl e));by_cases hk6:s6.k=0
    ·rw[An hk6] at hstep
     have HSP:=hid (hsp.out.trans hstep);have HG:=hid (fun (W:World) (hW:AY W g B a s6)=>(by have:=AG W hW;rw[Ae hk6] at this;exact this:Calls Tryz.prog 44 #[.pointer (some ⟨g,0,none⟩)] W fun r w'=>r=.returned (.bool true)∧Below W.heap.size W w'));obtain⟨y0,y1,f0,f1,hl6⟩:=A1 BK6;have HV6:=hid hv6;have hq6:=hst6.2.size;simp at hq6;clear hsp hstep hk6 hv6 hst6;go_wp2_with fail;refine (HG.out _ (HIN6.out.row ((by (repeat (first | with_reducible exact Below.refl _ _ | with_reducible assumption | (with_reducible refine Aw ?_ _) | (with_reducible refine Below.setCell ?_ zE _) | (with_reducible refine Below.drew ?_) | (with_reducible refine below_drewN ?_ _) | (refine Ag zI ?_))):Below w3.heap.size w6 _).mono hsz3)).rd).mono ?_;rintro r w7 ⟨rfl,hb7⟩;have B7:Blk w7 w3.heap.size 151 #[.int .u64 (x:Int),.slice a6 bk.length c6]:=Blk.later (BK6.set 1 _) hb7;obtain⟨z0,z1,_,_,hl7⟩:=A1 B7;have hb67:Below w3.heap.size w6 w7:=(by (repeat (first | with_reducible exact Below.refl _ _ | with_reducible assumption | (with_reducible refine Aw ?_ _) | (with_reducible refine Below.setCell ?_ zE _) | (with_reducible refine Below.drew ?_) | (with_reducible refine below_drewN ?_ _) | (refine Ag zI ?_))):Below w3.heap.size w6 (w6.setCell ⟨w3.heap.size,1,none⟩ (.slice a6 bk.length c6))).trans (hb7.mono zM);have HIN7:=hid (HIN6.out.row (hb67.mono hsz3));have hsz7:=HIN7.out.tch.size;have hk7:Tch (fun b=>b=g∨w3.heap.size≤b) w3 w7:=HK6.out.trans (Tch.FU hb67) (fun b hb hle=> .inr hle);have O7:=AD.KZ HO3.out hk7 hlt;obtain⟨cells0,OA0⟩:=HO3.out;have hlt0:∀g',(Value.slice av J.length cv).ownBlock=some g'→g'<w3.heap.size:=fun g' e=>(OA0.1.lt g' e).2;obtain⟨cells,OA⟩:=AD.below O7 (show Below w7.heap.size w7 (w7.alloc (.cells #[.int .u64 (x:Int),.slice a6 bk.length c6] 151)) from zA);have hk8:∀b,w3.heap.size+1≤b→b<w6.heap.size→(w7.alloc (.cells #[.int .u64 (x:Int),.slice a6 bk.length c6] 151)).heap[b]? =w6.heap[b]? :=fun b h1 h2=>(A2 w7 _ b (by have:=hb67.size;omega)).trans ((hb7.block b zB3).trans (Ap _ _ _ _ zH));have hv8:=AV.keep (w':=(w7.alloc (.cells #[.int .u64 (x:Int),.slice a6 bk.length c6] 151))) HV6.out (fun b (hb:(w3.alloc (.cells #[.int .u64 (x:Int),.slice none 0 0] 151)).heap.size≤b∧b<w6.heap.size)=>hk8 b (by have:=hb.1;simp at this;omega) hb.2);have hx8:Gx.r (fun b=>w.heap.size≤b∧b<(w7.alloc (.cells #[.int .u64 (x:Int),.slice a6 bk.length c6] 151)).heap.size∧(Value.slice av J.length cv).ownBlock≠some b) (w7.alloc (.cells #[.int .u64 (x:Int),.slice a6 bk.length c6] 151)) [.int .u64 (x:Int),.slice a6 bk.length c6] ⟨(x:Int),bk⟩:=by
      refine GS (x:=⟨(x:Int),bk⟩) hxb (AV.mono hv8 fun b hb=> ?_);have h1:=hb.1;have h2:=hb.2;have h3:=hb67.size;simp at h1;refine⟨zD,zM,fun e=> ?_⟩;have:=hlt0 b e;omega
     have HX:=hid hx8;have HA:=hid OA;have HS9:Hid (w.heap.size≤(w7.alloc (.cells #[.int .u64 (x:Int),.slice a6 bk.length c6] 151)).heap.size):=hid zM;clear hx8 hv8 OA OA0 hlt0 hk8 O7 hk7 hb67 hb7 B7 y0 y1 f0 f1 HV6;go_wp2_with (at_builtin;go_loud (refine Ar rfl _ _ _ rfl w.heap.size 151 i0 (.agg #[.int .u64 0,.slice none 0 0]) 2 32 Gn hi hz0 hz1 hz2 rfl zS (.slice av J.length cv) J.length _ rfl HA.out.1 (some ⟨w7.heap.size,0,none⟩) 1 1 [.int .u64 (x:Int),.slice a6 bk.length c6] rfl (Bf w7 151 _ rfl rfl rfl) (by intro u hu;simp at hu;rcases hu with rfl | rfl<;>rfl) zR zD HS9.out ?_;intro v1 w9 hown1 hgrow1 hat1;have OP:=hid (AD.push HA.out rfl HX.out hown1 hgrow1 hat1 hgrow1.size);have hb9:Below w.heap.size w7 w9:=(Below.grown ((by (repeat (first | with_reducible exact Below.refl _ _ | with_reducible assumption | (with_reducible refine Aw ?_ _) | (with_reducible refine Below.setCell ?_ zE _) | (with_reducible refine Below.drew ?_) | (with_reducible refine below_drewN ?_ _) | (refine Ag zI ?_))):Below w7.heap.size w7 _).mono hsz7) hgrow1 HS9.out (fun g e=>(HA.out.1.lt g e).1));clear hown1 hgrow1 hat1))
     have HIN9:=hid (HIN7.out.row hb9);have HJ9:Hid (∀y∈J++[(⟨(x:Int),bk⟩:BS)],0≤y.stream∧y.stream≤18446744073709551615):=hid (fun y hy=>by
      rw[Ci,Bw] at hy;rcases hy with hy | rfl
      ·exact hJb.out y hy
      ·exact hxb)
     go_roundw
     case rel=>exact ⟨0+1,J++[⟨(x:Int),bk⟩],s6,zD,zZ,hid (by rw[Au,hJl.out];rfl),OP.out,HJ9,HIN9,hid (by rw[HSP.out];simp)⟩
     case measure=>simp [intOf];omega
    ·rw[Ak hk6] at hstep
     have HSP:=hid (hsp.out.trans hstep);have HG:=hid (fun (W:World) (hW:AY W g B a s6)=>(by have:=AG W hW;rw[Ad hk6] at this;exact this:Calls Tryz.prog 44 #[.pointer (some ⟨g,0,none⟩)] W fun r w'=>r=.returned (.bool false)∧Below W.heap.size W w'));obtain⟨y0,y1,f0,f1,hl6⟩:=A1 BK6;clear hsp hstep hk6 hv6;go_wp2_with fail;refine (HG.out _ (HIN6.out.row ((by (repeat (first | with_reducible exact Below.refl _ _ | with_reducible assumption | (with_reducible refine Aw ?_ _) | (with_reducible refine Below.setCell ?_ zE _) | (with_reducible refine Below.drew ?_) | (with_reducible refine below_drewN ?_ _) | (refine Ag zI ?_))):Below w3.heap.size w6 _).mono hsz3)).rd).mono ?_;rintro r w7 ⟨rfl,hb7⟩;have hb67:Below w3.heap.size w6 w7:=(by (repeat (first | with_reducible exact Below.refl _ _ | with_reducible assumption | (with_reducible refine Aw ?_ _) | (with_reducible refine Below.setCell ?_ zE _) | (with_reducible refine Below.drew ?_) | (with_reducible refine below_drewN ?_ _) | (refine Ag zI ?_))):Below w3.heap.size w6 (w6.setCell ⟨w3.heap.size,1,none⟩ (.slice a6 bk.length c6))).trans (hb7.mono zM);have HE:=hid (HIN6.out.row (hb67.mono hsz3)).to;clear hb7;go_wp2;go_ret;rw[HSP.out];exact⟨.slice none 0 0,rfl,AD.ID (e:=0) (Aj _) AD.nil,HE.out⟩
   ·obtain⟨m,rfl⟩:∃m,k=m+1:=⟨k-1,by
     have:=hJl.out;have:J.length≠0:=fun e=>hJe (AP e);omega⟩
    have hmJ:m<J.length:=zA5;have hlast:J.getLast?.map BS.stream=some J[m].stream:=by
     have:=hJl.out;rw[List.getLast?_eq_getElem?,this,Nat.add_sub_cancel,AQ hmJ];rfl
    have hzb:=hJb.out J[m] (Da hmJ);obtain⟨bq,o,hA,hbb,a1,c1,hc0,hc1,hst,hd⟩:=GU (AD.slice (Aj _) HO.out) hmJ;subst hA;have hbg:bq≠g:=by have:=hbb.1;omega
    have hbr:bq<wr.heap.size:=hbb.2;have hstep:Rs.Co B pos (N-(m+1)) st (J.getLast?.map BS.stream) J=(if ((st.stream B (some J[m].stream)).1.delta B pos 4).1.k=0 then Rs.Co B pos (N-(m+1+1)) ((st.stream B (some J[m].stream)).1.delta B pos 4).1 (some (st.stream B (some J[m].stream)).2) (J++[⟨(st.stream B (some J[m].stream)).2,((st.stream B (some J[m].stream)).1.delta B pos 4).2⟩]) else (((st.stream B (some J[m].stream)).1.delta B pos 4).1,[])):=by
     rw[hlast,show N-(m+1)=(N-(m+1+1))+1 by omega];rfl
    clear hlast hd hc1 hbb;generalize J[m]=z at*;have i1':(m:Int)+1<(N:Int):=zD;have i2:(m:Int)<(J.length:Int):=zD;have d2:decide ((m:Int)+1<(N:Int))=true:=Ae i1';have e1:=Un hzb;have hsg:IntKind.u64.signed=false:=rfl;by_cases hf:18446744073709551615-z.stream≤((st.num B).2:Int)
    ·have hS:(st.stream B (some z.stream)).1=(st.num B).1.fail 13 st.p:=by
      simp only[Rs.stream];rw[An hf]
     have hbad:((st.stream B (some z.stream)).1.delta B pos 4).1.k≠0:=fun e=>(Rs.BV (s:=(st.num B).1) (c:=13) (at_:=(st.p:Int)) zD) (by rw[←hS];exact (Rs.OM (Rs.JE hin.out.rd.ok) hpos.2 e).2.2.2.2);rw[Ak hbad,hS] at hstep;rw[hS] at hbad;clear hS;generalize st.num B=R at*;obtain⟨st1,x⟩:=R;dsimp only at*;have d4:decide (bits BinOp.xor IntKind.u64 IntKind.u64.max z.stream≤(x:Int))=true:=by rw[e1];exact Ae hf
     clear hf e1;have HD:=hid (fun (W:World) (hW:AY W g B a (st1.fail 13 (st.p:Int)))=>IS W hW hB pos hpos 4 zD);generalize (st1.fail 13 (st.p:Int)).delta B pos 4=D at*;obtain⟨s6,bk⟩:=D;dsimp only at*;go_wp2_with fail;refine HAT.out.mono ?_;rintro r w2 ⟨rfl,rfl⟩;go_wp2_with fail;refine HVR.out.mono ?_;rintro r w3 ⟨rfl,hst3⟩;have HIN3:=hid (hin.out.step hst3);have HO3:=hid (AD.KZ HO.out (hst3.2.mono fun b hb e=> .inl e) hlt);have hsz3:=HIN3.out.tch.size;have X0:=(hst3.2.cell (p:=⟨bq,o+m*2,none⟩) hbr hbg).trans hc0;have hb3:bq<w3.heap.size:=Am hbr hst3.2.size;clear hst3 hc0;go_wp2_with fail;refine (Br _ (HIN3.out.row ((by (repeat (first | with_reducible exact Below.refl _ _ | with_reducible assumption | (with_reducible refine Aw ?_ _) | (with_reducible refine Below.setCell ?_ zE _) | (with_reducible refine Below.drew ?_) | (with_reducible refine below_drewN ?_ _) | (refine Ag zI ?_))):Below w3.heap.size w3 _).mono hsz3)).rd 13 (st.p:Int) zD).mono ?_;rintro r w4 ⟨rfl,hst4⟩;have B4:Blk w4 w3.heap.size 151 #[.int .u64 (x:Int),.slice none 0 0]:=Blk.tch zB hst4.2 zD;have HIN4:=hid ((HIN3.out.row ((by (repeat (first | with_reducible exact Below.refl _ _ | with_reducible assumption | (with_reducible refine Aw ?_ _) | (with_reducible refine Below.setCell ?_ zE _) | (with_reducible refine Below.drew ?_) | (with_reducible refine below_drewN ?_ _) | (refine Ag zI ?_))):Below w3.heap.size w3 _).mono hsz3)).step hst4);have hsz4:=hst4.2.size;obtain⟨q0,q1,e0,e1,l4⟩:=A1 B4;clear hst4;go_wp2_with fail;refine (HD.out _ (HIN4.out.row ((by (repeat (first | with_reducible exact Below.refl _ _ | with_reducible assumption | (with_reducible refine Aw ?_ _) | (with_reducible refine Below.setCell ?_ zE _) | (with_reducible refine Below.drew ?_) | (with_reducible refine below_drewN ?_ _) | (refine Ag zI ?_))):Below w3.heap.size w4 _).mono hsz3)).rd).mono ?_;rintro r w6 ⟨v6,rfl,hv6,hst6⟩;obtain⟨a6,c6,hfv,_,_⟩:=At hv6;simp only[Ai,As] at hfv;subst hfv;have BK6:Blk w6 w3.heap.size 151 #[_,.slice none 0 0]:=Blk.tch (B4.set 0 _) hst6.2 zD;have HIN6:=hid ((HIN4.out.row ((by (repeat (first | with_reducible exact Below.refl _ _ | with_reducible assumption | (with_reducible refine Aw ?_ _) | (with_reducible refine Below.setCell ?_ zE _) | (with_reducible refine Below.drew ?_) | (with_reducible refine below_drewN ?_ _) | (refine Ag zI ?_))):Below w3.heap.size w4 _).mono hsz3)).step hst6);have HSP:=hid (hsp.out.trans hstep);have HG:=hid (fun (W:World) (hW:AY W g B a s6)=>(by have:=AG W hW;rw[Ad hbad] at this;exact this:Calls Tryz.prog 44 #[.pointer (some ⟨g,0,none⟩)] W fun r w'=>r=.returned (.bool false)∧Below W.heap.size W w'));obtain⟨y0,y1,f0,f1,hl6⟩:=A1 BK6;clear hsp hstep hbad hv6 B4 q0 q1 e0 e1 l4;go_wp2_with fail;refine (HG.out _ (HIN6.out.row ((by (repeat (first | with_reducible exact Below.refl _ _ | with_reducible assumption | (with_reducible refine Aw ?_ _) | (with_reducible refine Below.setCell ?_ zE _) | (with_reducible refine Below.drew ?_) | (with_reducible refine below_drewN ?_ _) | (refine Ag zI ?_))):Below w3.heap.size w6 _).mono hsz3)).rd).mono ?_;rintro r w7 ⟨rfl,hb7⟩;have hb67:Below w3.heap.size w6 w7:=(by (repeat (first | with_reducible exact Below.refl _ _ | with_reducible assumption | (with_reducible refine Aw ?_ _) | (with_reducible refine Below.setCell ?_ zE _) | (with_reducible refine Below.drew ?_) | (with_reducible refine below_drewN ?_ _) | (refine Ag zI ?_))):Below w3.heap.size w6 (w6.setCell ⟨w3.heap.size,1,none⟩ (.slice a6 bk.length c6))).trans (hb7.mono zM);have HE:=hid (HIN6.out.row (hb67.mono hsz3)).to;clear hb7;go_wp2;go_ret;rw[HSP.out];exact⟨.slice none 0 0,rfl,AD.ID (e:=0) (Aj _) AD.nil,HE.out⟩
    ·have hS:st.stream B (some z.stream)=((st.num B).1,((st.num B).2:Int)+(z.stream+1)):=by
      simp only[Rs.stream];rw[Ak hf,Int.add_assoc]
     rw[hS] at hstep;clear hS;generalize st.num B=R at*;obtain⟨st1,x⟩:=R;dsimp only at*;have hxb:(0:Int)≤(x:Int)+(z.stream+1)∧(x:Int)+(z.stream+1)≤18446744073709551615:=zD;have d4:decide (bits BinOp.xor IntKind.u64 IntKind.u64.max z.stream≤(x:Int))=false:=by rw[e1];exact Ad hf
     have v1:0≤z.stream+1:=zD;have v2:z.stream+1≤18446744073709551615:=zD;have v3:=hxb.1;have v4:=hxb.2;clear hf e1;have HD:=hid (fun (W:World) (hW:AY W g B a st1)=>IS W hW hB pos hpos 4 zD);generalize st1.delta B pos 4=D at*;obtain⟨s6,bk⟩:=D;dsimp only at*;go_wp2_with fail;refine HAT.out.mono ?_;rintro r w2 ⟨rfl,rfl⟩;go_wp2_with fail;refine HVR.out.mono ?_;rintro r w3 ⟨rfl,hst3⟩;have HIN3:=hid (hin.out.step hst3);have HO3:=hid (AD.KZ HO.out (hst3.2.mono fun b hb e=> .inl e) hlt);have hsz3:=HIN3.out.tch.size;have X0:=(hst3.2.cell (p:=⟨bq,o+m*2,none⟩) hbr hbg).trans hc0;have hb3:bq<w3.heap.size:=Am hbr hst3.2.size;clear hst3 hc0;go_wp2_with fail;refine (HD.out _ (HIN3.out.row ((by (repeat (first | with_reducible exact Below.refl _ _ | with_reducible assumption | (with_reducible refine Aw ?_ _) | (with_reducible refine Below.setCell ?_ zE _) | (with_reducible refine Below.drew ?_) | (with_reducible refine below_drewN ?_ _) | (refine Ag zI ?_))):Below w3.heap.size w3 _).mono hsz3)).rd).mono ?_;rintro r w6 ⟨v6,rfl,hv6,hst6⟩;obtain⟨a6,c6,hfv,_,_⟩:=At hv6;simp only[Ai,As] at hfv;subst hfv;have BK6:Blk w6 w3.heap.size 151 #[.int .u64 ((x:Int)+(z.stream+1)),.slice none 0 0]:=Blk.tch zB hst6.2 zD;have HIN6:=hid ((HIN3.out.row ((by (repeat (first | with_reducible exact Below.refl _ _ | with_reducible assumption | (with_reducible refine Aw ?_ _) | (with_reducible refine Below.setCell ?_ zE _) | (with_reducible refine Below.drew ?_) | (with_reducible refine below_drewN ?_ _) | (refine Ag zI ?_))):Below w3.heap.size w3 _).mono hsz3)).step hst6);have HK6:Hid (Tch (fun b=>b=g∨w3.heap.size≤b) w3 w6):=hid ((Tch.FU (by (repeat (first | with_reducible exact Below.refl _ _ | with_reducible assumption | (with_reducible refine Aw ?_ _) | (with_reducible refine Below.setCell ?_ zE _) | (with_reducible refine Below.drew ?_) | (with_reducible refine below_drewN ?_ _) | (refine Ag zI ?_))):Below w3.heap.size w3 _)).mono (fun b hb e=> .inr e) |>.trans hst6.2 (fun b hb e=> .inl e));by_cases hk6:s6.k=0
     ·rw[An hk6] at hstep
      have HSP:=hid (hsp.out.trans hstep);have HG:=hid (fun (W:World) (hW:AY W g B a s6)=>(by have:=AG W hW;rw[Ae hk6] at this;exact this:Calls Tryz.prog 44 #[.pointer (some ⟨g,0,none⟩)] W fun r w'=>r=.returned (.bool true)∧Below W.heap.size W w'));obtain⟨y0,y1,f0,f1,hl6⟩:=A1 BK6;have HV6:=hid hv6;have hq6:=hst6.2.size;simp at hq6;clear hsp hstep hk6 hv6 hst6;go_wp2_with fail;refine (HG.out _ (HIN6.out.row ((by (repeat (first | with_reducible exact Below.refl _ _ | with_reducible assumption | (with_reducible refine Aw ?_ _) | (with_reducible refine Below.setCell ?_ zE _) | (with_reducible refine Below.drew ?_) | (with_reducible refine below_drewN ?_ _) | (refine Ag zI ?_))):Below w3.heap.size w6 _).mono hsz3)).rd).mono ?_;rintro r w7 ⟨rfl,hb7⟩;have B7:Blk w7 w3.heap.size 151 #[.int .u64 ((x:Int)+(z.stream+1)),.slice a6 bk.length c6]:=Blk.later (BK6.set 1 _) hb7;obtain⟨z0,z1,_,_,hl7⟩:=A1 B7;have hb67:Below w3.heap.size w6 w7:=(by (repeat (first | with_reducible exact Below.refl _ _ | with_reducible assumption | (with_reducible refine Aw ?_ _) | (with_reducible refine Below.setCell ?_ zE _) | (with_reducible refine Below.drew ?_) | (with_reducible refine below_drewN ?_ _) | (refine Ag zI ?_))):Below w3.heap.size w6 (w6.setCell ⟨w3.heap.size,1,none⟩ (.slice a6 bk.length c6))).trans (hb7.mono zM);have HIN7:=hid (HIN6.out.row (hb67.mono hsz3));have hsz7:=HIN7.out.tch.size;have hk7:Tch (fun b=>b=g∨w3.heap.size≤b) w3 w7:=HK6.out.trans (Tch.FU hb67) (fun b hb hle=> .inr hle);have O7:=AD.KZ HO3.out hk7 hlt;obtain⟨cells0,OA0⟩:=HO3.out;have hlt0:∀g',(Value.slice (some ⟨bq,o,none⟩) J.length cv).ownBlock=some g'→g'<w3.heap.size:=fun g' e=>(OA0.1.lt g' e).2;obtain⟨cells,OA⟩:=AD.below O7 (show Below w7.heap.size w7 (w7.alloc (.cells #[.int .u64 ((x:Int)+(z.stream+1)),.slice a6 bk.length c6] 151)) from zA);have hk8:∀b,w3.heap.size+1≤b→b<w6.heap.size→(w7.alloc (.cells #[.int .u64 ((x:Int)+(z.stream+1)),.slice a6 bk.length c6] 151)).heap[b]? =w6.heap[b]? :=fun b h1 h2=>(A2 w7 _ b (by have:=hb67.size;omega)).trans ((hb7.block b zB3).trans (Ap _ _ _ _ zH));have hv8:=AV.keep (w':=(w7.alloc (.cells #[.int .u64 ((x:Int)+(z.stream+1)),.slice a6 bk.length c6] 151))) HV6.out (fun b (hb:(w3.alloc (.cells #[.int .u64 ((x:Int)+(z.stream+1)),.slice none 0 0] 151)).heap.size≤b∧b<w6.heap.size)=>hk8 b (by have:=hb.1;simp at this;omega) hb.2);have hx8:Gx.r (fun b=>w.heap.size≤b∧b<(w7.alloc (.cells #[.int .u64 ((x:Int)+(z.stream+1)),.slice a6 bk.length c6] 151)).heap.size∧(Value.slice (some ⟨bq,o,none⟩) J.length cv).ownBlock≠some b) (w7.alloc (.cells #[.int .u64 ((x:Int)+(z.stream+1)),.slice a6 bk.length c6] 151)) [.int .u64 ((x:Int)+(z.stream+1)),.slice a6 bk.length c6] ⟨((x:Int)+(z.stream+1)),bk⟩:=by
       refine GS (x:=⟨((x:Int)+(z.stream+1)),bk⟩) hxb (AV.mono hv8 fun b hb=> ?_);have h1:=hb.1;have h2:=hb.2;have h3:=hb67.size;simp at h1;refine⟨zD,zM,fun e=> ?_⟩;have:=hlt0 b e;omega
      have HX:=hid hx8;have HA:=hid OA;have HS9:Hid (w.heap.size≤(w7.alloc (.cells #[.int .u64 ((x:Int)+(z.stream+1)),.slice a6 bk.length c6] 151)).heap.size):=hid zM;clear hx8 hv8 OA OA0 hlt0 hk8 O7 hk7 hb67 hb7 B7 y0 y1 f0 f1 HV6;go_wp2_with (at_builtin;go_loud (refine Ar rfl _ _ _ rfl w.heap.size 151 i0 (.agg #[.int .u64 0,.slice none 0 0]) 2 32 Gn hi hz0 hz1 hz2 rfl zS (.slice (some ⟨bq,o,none⟩) J.length cv) J.length _ rfl HA.out.1 (some ⟨w7.heap.size,0,none⟩) 1 1 [.int .u64 ((x:Int)+(z.stream+1)),.slice a6 bk.length c6] rfl (Bf w7 151 _ rfl rfl rfl) (by intro u hu;simp at hu;rcases hu with rfl | rfl<;>rfl) zR zD HS9.out ?_;intro v1 w9 hown1 hgrow1 hat1;have OP:=hid (AD.push HA.out rfl HX.out hown1 hgrow1 hat1 hgrow1.size);have hb9:Below w.heap.size w7 w9:=(Below.grown ((by (repeat (first | with_reducible exact Below.refl _ _ | with_reducible assumption | (with_reducible refine Aw ?_ _) | (with_reducible refine Below.setCell ?_ zE _) | (with_reducible refine Below.drew ?_) | (with_reducible refine below_drewN ?_ _) | (refine Ag zI ?_))):Below w7.heap.size w7 _).mono hsz7) hgrow1 HS9.out (fun g e=>(HA.out.1.lt g e).1));clear hown1 hgrow1 hat1))
      have HIN9:=hid (HIN7.out.row hb9);have HJ9:Hid (∀y∈J++[(⟨((x:Int)+(z.stream+1)),bk⟩:BS)],0≤y.stream∧y.stream≤18446744073709551615):=hid (fun y hy=>by
       rw[Ci,Bw] at hy;rcases hy with hy | rfl
       ·exact hJb.out y hy
       ·exact hxb)
      go_roundw
      case rel=>exact ⟨m+1+1,J++[⟨((x:Int)+(z.stream+1)),bk⟩],s6,zD,zZ,hid (by rw[Au,hJl.out];rfl),OP.out,HJ9,HIN9,hid (by rw[HSP.out];simp)⟩
      case measure=>simp [intOf];omega
     ·rw[Ak hk6] at hstep
      have HSP:=hid (hsp.out.trans hstep);have HG:=hid (fun (W:World) (hW:AY W g B a s6)=>(by have:=AG W hW;rw[Ad hk6] at this;exact this:Calls Tryz.prog 44 #[.pointer (some ⟨g,0,none⟩)] W fun r w'=>r=.returned (.bool false)∧Below W.heap.size W w'));obtain⟨y0,y1,f0,f1,hl6⟩:=A1 BK6;clear hsp hstep hk6 hv6;go_wp2_with fail;refine (HG.out _ (HIN6.out.row ((by (repeat (first | with_reducible exact Below.refl _ _ | with_reducible assumption | (with_reducible refine Aw ?_ _) | (with_reducible refine Below.setCell ?_ zE _) | (with_reducible refine Below.drew ?_) | (with_reducible refine below_drewN ?_ _) | (refine Ag zI ?_))):Below w3.heap.size w6 _).mono hsz3)).rd).mono ?_;rintro r w7 ⟨rfl,hb7⟩;have hb67:Below w3.heap.size w6 w7:=(by (repeat (first | with_reducible exact Below.refl _ _ | with_reducible assumption | (with_reducible refine Aw ?_ _) | (with_reducible refine Below.setCell ?_ zE _) | (with_reducible refine Below.drew ?_) | (with_reducible refine below_drewN ?_ _) | (refine Ag zI ?_))):Below w3.heap.size w6 (w6.setCell ⟨w3.heap.size,1,none⟩ (.slice a6 bk.length c6))).trans (hb7.mono zM);have HE:=hid (HIN6.out.row (hb67.mono hsz3)).to;clear hb7;go_wp2;go_ret;rw[HSP.out];exact⟨.slice none 0 0,rfl,AD.ID (e:=0) (Aj _) AD.nil,HE.out⟩
  ·obtain rfl:k=N:=by omega
   have hE:=hsp.out;rw[Dg] at hE;have HSP:Hid (Rs.Co B pos k s1 none []=(st,J)):=hid hE;have hv:=AD.ID (Aj _) hown;have HV:=hid hv;have HE:=hid hin.out.to;clear hE hv hown;go_wp2;go_ret;rw[HSP.out];exact⟨_,rfl,HV.out,HE.out⟩
theorem Mw(h:W.ownsRow lo e sz v n xs)(hk:∀b,v.ownBlock=some b→b<W.heap.size→W'.heap[b]? =W.heap[b]?):W'.ownsRow lo e sz v n xs:=by
 refine⟨h.1,?_⟩;rcases h.2 with h0 | ⟨g',cap,cur,h1,h2,h3,h4⟩
 ·exact .inl h0
 ·exact .inr ⟨g',cap,cur,h1,h2,(hk g' (by rw[h1];rfl) (Blk.lt h3)).trans h3,h4⟩
theorem Dm(h:W.ownsRow lo e sz v n xs):∀b,v.ownBlock=some b→lo≤b∧b<W.heap.size:=by
 intro b hv;rcases h.2 with ⟨rfl,_⟩ | ⟨g,cap,cur,rfl,hb,hg,_⟩
 ·cases hv
 ·have e1:g=b:=by simpa [Value.ownBlock] using hv
  subst e1;exact⟨hb,Blk.lt hg⟩
end Go.Proofs.YtlbffbkbkajciaaGreat
