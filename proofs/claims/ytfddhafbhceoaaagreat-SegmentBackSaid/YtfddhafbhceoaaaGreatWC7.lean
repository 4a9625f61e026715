/- Mini: Needed by segmentOnce_walk, part 7: texts put together by shake.py; no condition. -/
import Derived.Test.YtfddhafbhceoaaaGreatWC3
import Derived.Test.YtfddhafbhceoaaaGreatWC2
import Derived.Test.YtfddhafbhceoaaaGreatWC6
import Derived.Deep.AppendLies
import Derived.Deep.RegionLaw
import Derived.Test.YtfddhafbhceoaaaGreatWC1
import Derived.Laws.MakeOwn
import Derived.Test.YtfddhafbhceoaaaGreatWC5
import Derived.Lib.ConvBytes
import Derived.Laws.AppendOwn
import Derived.Test.YtfddhafbhceoaaaGreatWC4
set_option linter.unusedVariables false
set_option linter.unusedSimpArgs false
set_option maxRecDepth 100000
set_option maxHeartbeats 6400000
namespace Go.Bs
theorem zBy{p:Prop}(h:p:=by unfold DS; rw [Al, IZ]):p:=h
theorem zBr{p:Prop}(h:p:=by have := HFK.out; simp only [Al]; omega):p:=h
theorem zBo{p:Prop}(h:p:=by have := HLT.out _ hf; omega):p:=h
theorem zAz{p:Prop}(h:p:=by have := hbk x hx; omega):p:=h
theorem Z2{p:Prop}(h:p:=by rw [G5]; exact h):p:=h
theorem zR{p:Prop}(h:p:=by simp only [Al]; omega):p:=h
theorem Aj:type_of% @List.getElem_cons_succ:=@List.getElem_cons_succ
theorem Fu:type_of% @List.take_of_length_le:=@List.take_of_length_le
end Go.Bs
namespace Go.Proofs.YtfddhafbhceoaaaGreat
open Go.RowKit Go.Bs
variable{B D J J' l:List UInt8}{X base c g i n sz:Nat}{S:Nat → Prop}{a:Option Addr}{s:Rs}{e t:TypeId}{v v0 v1 v2:Value}{W w w' w1:World}
theorem O2:(Tryz.prog.info? 215).map (fun i=>(i.zero,i.size,i.bytes))=some (some (.agg #[.int .u64 0,.slice none 0 0]),2,32):=zJ
theorem BS(W:World)(e:TypeId)(cs:List Value)(hB:w=W.alloc (.cells cs.toArray e))(hg:g=W.heap.size)(hs:cs.length=sz):Src w (some ⟨g,0,none⟩) 1 sz cs:=by
 subst hB hg;refine⟨zD,.inr ⟨_,0,rfl,fun j u hu=> ?_⟩⟩;rw[Bj,Blk.cell (Blk.new W e cs.toArray)];simpa using hu
theorem Qp(l:List Ba)(a:Option Addr)(n c:Nat)(w:World)(hl:Cb.r (·<w.heap.size) w [.slice a n c] l)(hlen:l.length≤1000000000000)(hb:∀x∈l,x.backs.length≤1000000000000):
  Calls Tryz.prog 269 #[.slice a n c] w fun r w'=>∃v,r=.returned v∧DZ.r (E8 w w') w' [v] l∧Below w.heap.size w w':=by
 obtain⟨rfl,hm,_,_⟩:=AH hl;obtain⟨i0,hi,hz0,hz1,hz2⟩:=A1 O2;have HL:=hid hl;clear hl;have HB:=hid hb;clear hb;go_enter Tryz.func269,Tryz.ntmps269;go_wp2;go_loopw [3,8] (fun v i wr=>∃k:Nat,k≤l.length∧i=.int .i64 k∧AZ w.heap.size Jr w.heap.size 215 2 wr v (l.take k)∧Below w.heap.size w wr) (fun _ i _=>l.length-(intOf i).toNat)
 case atStart=>exact ⟨0,At _,rfl,AZ.nil,Below.refl _ _⟩
 case round=>
  obtain⟨k,hk,rfl,hown,hb⟩:=hrel;by_cases hlt:k<l.length
  ·obtain⟨b,o,hA,hbb,a1,c1,hc0,hc1,hst,hd⟩:=DN HL.out hlt
   subst hA;have X0:=(hb.cell (p:=⟨b,o+k*2,none⟩) hbb).trans hc0;have X1:=(hb.cell (p:=⟨b,o+k*2+1,none⟩) hbb).trans hc1;clear hc0 hc1;have htk:=hid (AR hlt);have hbk:=HB.out _ (AT hlt);have R:=hid (lift hd hb);clear hd;generalize l[k]=z at*;have htl:(l.take k).length=k:=zI;generalize hT:l.take k=T at*;clear hT;subst htl;have OW:=hid hown;clear hown;have i1:(T.length:Int)<(l.length:Int):=zD;go_wp2_with fail;refine (OS z _ _ _ _ (lift R.out zB) hbk).mono ?_;rintro e w4 ⟨v4,rfl,hr4,hb4⟩;obtain⟨a4,c4,hv4,_,_⟩:=AJ hr4;simp only[As,AF] at hv4;subst hv4;have hbw4:Below wr.heap.size wr w4:=zB;have hz4:wr.heap.size+1≤w4.heap.size:=by have:=hb4.size;simpa using this
   have O4:=OW.out.below hbw4;have HR4:=hid (Bw.mono hr4 (S':=fun b=>wr.heap.size+1≤b∧b<w4.heap.size) fun b h=>by simpa [E8] using h);clear hr4;obtain⟨cells0,OA0⟩:=OW.out;have hlt0:∀g,u3.ownBlock=some g→g<wr.heap.size:=fun g e=>(OA0.1.lt g e).2;have O5:=O4.below (show Below w4.heap.size w4 (w4.alloc (.cells #[.int .u64 z.stream,.slice a4 z.backs.length c4] 215)) from zB);obtain⟨cells,OA⟩:=O5;have hx:Jr.r (fun b=>w.heap.size≤b∧b<(w4.alloc (.cells #[.int .u64 z.stream,.slice a4 z.backs.length c4] 215)).heap.size∧u3.ownBlock≠some b) (w4.alloc (.cells #[.int .u64 z.stream,.slice a4 z.backs.length c4] 215)) [.int .u64 z.stream,.slice a4 z.backs.length c4] z:=by
    refine NS hst (Bw.mono (Bw.keep HR4.out fun b hb=>AP w4 _ b hb.2) fun b hb'=>⟨?_,?_,fun e=> ?_⟩)
    ·have:=hb.size;omega
    ·simp;omega
    ·have:=hlt0 b e;omega
   have hbs:=hb.size;have hb9:Below w.heap.size w (w4.alloc (.cells #[.int .u64 z.stream,.slice a4 z.backs.length c4] 215)):=Au (Af hbw4 hb) _;have hs9:w.heap.size≤(w4.alloc (.cells #[.int .u64 z.stream,.slice a4 z.backs.length c4] 215)).heap.size:=hb9.size;have HX:=hid hx;clear hx;have HA:=hid OA;clear OA OA0 O4 hlt0;have HB9:=hid hb9;clear hb9;have HS9:=hid hs9;clear hs9;go_wp2_with (at_builtin;go_loud (refine AA rfl _ _ _ rfl w.heap.size 215 i0 (.agg #[.int .u64 0,.slice none 0 0]) 2 32 Tryz.underlying38 hi hz0 hz1 hz2 rfl zO u3 T.length _ rfl HA.out.1 (some ⟨w4.heap.size,0,none⟩) 1 1 [.int .u64 z.stream,.slice a4 z.backs.length c4] rfl (BS w4 215 _ rfl rfl rfl) (by intro u hu;simp at hu;rcases hu with rfl | rfl<;>rfl) zN zD HS9.out ?_;intro v1 w5 hown1 hgrow1 hat1;have OP:=hid (AZ.push HA.out rfl HX.out hown1 hgrow1 hat1 hgrow1.size);have B5:=hid (HB9.out.grown hgrow1 HS9.out (fun g e=>(HA.out.1.lt g e).1));clear hown1 hgrow1 hat1))
   go_roundw
   case rel=>exact ⟨T.length+1,zD,zT,by rw[htk.out];exact OP.out,B5.out⟩
   case measure=>simp [intOf];omega
  ·obtain rfl:k=l.length:=by omega
   rw[BW] at hown;have hv:=AZ.G7 (Ap _) hown;have HV:=hid hv;clear hv;go_wp2;go_ret;exact⟨_,rfl,HV.out,hb⟩
theorem M5:(Tryz.prog.info? 180).map (fun i=>(i.zero,i.size,i.bytes))=some (some (.agg #[.slice none 0 0,.slice none 0 0]),2,48):=zJ
theorem Sc:(Tryz.prog.info? 48).map (fun i=>(i.zero,i.size,i.bytes))=some (some (.agg #[.int .u64 0,.int .u64 0,.slice none 0 0]),3,40):=zJ
open Go.RowKit Go.Bs Go.Maps
theorem LH{W W':World}{cs:List Value}{l:List Int}(h:Bw.r (fun q=>W.heap.size≤q∧q<W'.heap.size) W' cs l):Bw.r (·<W'.heap.size) W' cs l:=Bw.mono h fun q hq=>hq.2
def Mu(below:Int)(l:List Int)(w:World)(e:Ending)(w':World):Prop:=
 ∃v,e=.returned (.tuple #[v,.bool (BP below l)])∧Bw.r (fun q=>w.heap.size≤q∧q<w'.heap.size) w' [v] (if BP below l then BX below l else [])∧Below w.heap.size w w'
theorem MM(below:Int)(l:List Int)(a:Option Addr)(n c:Nat)(w:World)(hb0:0≤below∧below≤18446744073709551615)(hl:Bw.r (·<w.heap.size) w [.slice a n c] l)(hlen:l.length≤1000000000000):
  Calls Tryz.prog 356 #[.int .u64 below,.slice a n c] w (Mu below l w):=by
 obtain⟨rfl,hm,_,_⟩:=AH hl;obtain⟨i0,hi,hz0,hz1,hz2⟩:=A1 Rh;have HL:=hid hl;clear hl;go_enter Tryz.func356,Tryz.ntmps356;go_wp2;go_loopw [0,6,11] (fun b v i wr=>∃k:Nat,k≤l.length∧i=.int .i64 k∧b=.int .u64 (ahead below l k)∧0≤ahead below l k∧ahead below l k≤18446744073709551615∧Hid (BP below l=BP (ahead below l k) (l.drop k))∧
   (∃xs:List Int,Hid (xs.length=k∧(∀x∈xs,0≤x∧x≤18446744073709551615)∧BX below l=xs++BX (ahead below l k) (l.drop k))∧wr.ownsRow w.heap.size 36 1 v k (xs.map (Value.int .u64)))∧Below w.heap.size w wr) (fun _ _ i _=>l.length-(intOf i).toNat)
 case atStart=>exact ⟨0,At _,rfl,rfl,hb0.1,hb0.2,hid rfl,⟨[],hid ⟨rfl,zQ,rfl⟩,⟨rfl,.inl ⟨rfl,rfl⟩⟩⟩,Below.refl _ _⟩
 case round=>
  obtain⟨k,hk,rfl,rfl,ha0,ha1,hf,⟨xs,hxs,hown⟩,hb⟩:=hrel;by_cases hlt:k<l.length
  ·obtain⟨b,o,hA,hbb,hc,hx0,hx1⟩:=FG HL.out hlt
   subst hA;have q:=(hb.cell (p:=⟨b,o+k,none⟩) hbb).trans hc;clear hc;have hd:=hid (AD hlt);have hsu:=hid (GU below l k hlt);generalize hlk:l[k]=x at*;clear hlk;generalize ahead below l k=p at*;by_cases hge:p≤x
   ·have hff:Hid (BP below l=false):=by
     rw[hf.out,hd.out];exact hid zA6
    go_wp2;go_ret2
    exact⟨.slice none 0 0,zK,zAw,hb⟩
   ·have hbs:=hb.size
    have w1:0≤p-x:=zD;have w2:0≤p-x-1:=zD;go_wp2_with (at_builtin;refine wpList_append_lies _ rfl _ _ _ rfl w.heap.size 36 i0 (.int .u64 0) 1 8 JQ hi hz0 hz1 hz2 rfl zO _ k _ rfl (hown.alloc _) ⟨wr.heap.size,0,none⟩ 1 1 [.int .u64 (p-x-1)] rfl rfl (World.news_of_block (Blk.new _ _ _)) zAj zO zN zD zI _ rfl ?_;intro g1 cap1 w1' hown1 hgrow1 hat1 hlt1)
    go_roundw
    case rel=>
     refine⟨k+1,zD,zT,by rw[hsu.out],by rw[hsu.out];exact hx0,by rw[hsu.out];exact hx1,?_,⟨xs++[p-x-1],?_,?_⟩,?_⟩
     ·rw[hf.out,hd.out,hsu.out]
      exact hid zBn
     ·refine hid ⟨by simp[hxs.out.1],?_,?_⟩
      ·intro y hy
       rw[F5,C3] at hy;rcases hy with hy | rfl
       ·exact hxs.out.2.1 y hy
       ·omega
      ·rw[hsu.out,hxs.out.2.2,hd.out]
       simp[BX]
     ·rw[Cs];exact hown1
     ·refine Below.grown ?_ hgrow1 zI (fun g e=>(hown.lt g e).1)
      exact hb.alloc hbs _
    case measure=>simp [intOf];omega
  ·obtain rfl:k=l.length:=by omega
   have hff:Hid (BP below l=true):=by
    rw[hf.out,Cy];exact hid rfl
   have hxl:=hxs.out.1;have hst:Hid (BX below l=xs):=hid zB4;have hv:Bw.r (fun q=>w.heap.size≤q∧q<wr.heap.size) wr [u6] xs:=GJ hxs.out.2.1 hxl.symm hown;have HV:=hid hv;clear hv hxl;go_wp2;go_ret2
   exact⟨u6,zK,zB5,hb⟩
theorem Is:∀(l:List Int) (p:Int),BP p l=true→p≤18446744073709551615→(∀x∈l,0≤x)→∀y∈BX p l,0≤y∧y≤18446744073709551615
 | [],p,_,_,_,y,hy=>by simp[BX] at hy
 | x::l,p,hf,hp,hx,y,hy=>by
  simp only[BP,Aq,Ar] at hf;have h0:=hx x zQ;simp only[BX,List.mem_cons] at hy;rcases hy with rfl | hy
  ·omega
  ·exact Is l x hf.2 zD (fun z hz=>hx z (by simp[hz])) y hy
theorem So(w:World){g base most:Nat}{J:List UInt8}{a:Option Addr}(h:Bn w g base most J a c)(pos:Int)(hpos:0≤pos∧pos≤18446744073709551615)(l:List Int)(al:Option Addr)(nl cl:Nat)
 (hl:Bw.r (·<w.heap.size) w [.slice al nl cl] l) (hf:BP pos l=true) (hlen:l.length≤1000000) (hfit:J.length+(Dj pos l).length≤most) (hln2:J.length+(Dj pos l).length≤100000000000000):
  Calls Tryz.prog 345 #[.pointer (some ⟨g,0,none⟩),.int .u64 pos,.slice al nl cl] w fun r w'=>r=.returned (.tuple #[])∧Az w g base most (J++Dj pos l) a w':=by
 obtain⟨rfl,hm,_,_⟩:=AH hl;have HS:=hid (MM pos l al _ cl w hpos hl zD);have hlt:=h.len;have hsl:=GF pos l;have hnb:=Gw (BX pos l);have hxs:=Ga hl;have hsb:=hid (Is l pos hf hpos.2 (fun x hx=>(hxs x hx).1));have hvl:=A3 l.length;have hdl:(Dj pos l).length=(AV l.length).length+(CG (BX pos l)).length:=by unfold Dj;rw[Al]
 rw[hdl] at hfit hln2;unfold Mu at HS;rw[hf] at HS;simp only[Fs] at HS;unfold Dj;have HP:=hid h;have HMO:=hid (fun k=>IA (BX pos l) k);have HNS:=hid (fun (k:Nat) (h:k<(BX pos l).length)=>GK (BX pos l) k h);generalize BX pos l=T at*;generalize hL:l.length=L at*;have hLL:=hid hL;clear h hl hf hxs hdl hL;go_enter Tryz.func345,Tryz.ntmps345;go_wp2_with fail;refine HS.out.mono ?_;rintro r w1 ⟨v,rfl,hr,hb1⟩;obtain⟨a1,c1,hv,hr2,_⟩:=AJ hr;simp only[As,AF] at hv;subst hv;rw[hsl] at hr2 ⊢;have HR:=hid (GI HP.out hr2);have HP1:=hid (HP.out.later hb1);have HV:=hid (Cl w1 HP1.out L zD zD zD);clear hr hr2;go_wp2_with fail;refine HV.out.mono ?_;rintro r w2 ⟨rfl,hst⟩;have HST:=hid hst;clear hst;have hz1:=hb1.size;go_wp2_with fail;go_loopw [27] (fun i wr=>∃k:Nat,k≤L∧i=.int .i64 k∧Hid (Az w1 g base most (J++AV L++CG (T.take k)) a wr)) (fun i _=>L-(intOf i).toNat)
 case atStart=>exact ⟨0,At _,rfl,hid (by simpa [CG] using HST.out)⟩
 case round=>
  obtain⟨k,hk,rfl,hp⟩:=hrel;obtain⟨a3,c3,hp3,ht3,ha3⟩:=hp.out;rcases Be k L with hlt | hge
  ·have hd3:=Ef ht3 ha3 HR.out
   have hkT:k<T.length:=zD;obtain⟨b,o,hA,hbb,hc,hx0,hx1⟩:=FG hd3 hkT;subst hA;have hst:=HNS.out k hkT;have hfk:=HMO.out (k+1);rw[hst,Al] at hfk;have HSK:=hid hst;have hvk:=(A3 T[k].toNat).1;have hJ3:=hp3.len;simp only[Al] at hJ3;have hV:=Cl wr hp3 T[k].toNat zD zR zR;rw[toNat_cast hx0,AB (J++AV L),←hst] at hV;have HV3:=hid hV;have HT3:=hid (And.intro ht3 ha3);have i1:(k:Int)<(L:Int):=zD;have d1:decide ((k:Int)<(L:Int))=true:=Ad i1;clear hV hd3 hst hp3 ht3 ha3 hp hfk hvk hJ3;generalize T[k]=y at*;go_wp2_with fail;refine HV3.out.mono ?_;rintro r w5 ⟨rfl,hst5⟩;have HN:=hid (Az.trans (J:=J) HT3.out.1 HT3.out.2 hst5);clear hst5;go_wp2;go_roundw
   case rel=>exact ⟨k+1,zD,zT,HN⟩
   case measure=>simp [intOf];omega
  ·obtain rfl:k=L:=by omega
   have d1:decide ((k:Int)<(k:Int))=false:=Ae zD;rw[Fu zD] at hp;have HN:=hid (Az.later hb1 hp.out);rw[AB] at HN;clear hp hp3 ht3 ha3;go_wp2;first | go_end0 | refine An (AO rfl _ _ _) rfl ?_
   exact⟨rfl,HN.out⟩
theorem QQ(w:World)(pos:Int)(hpos:0≤pos∧pos≤18446744073709551615)(l:List Int)(al:Option Addr)(nl cl:Nat)
 (hl:Bw.r (·<w.heap.size) w [.slice al nl cl] l) (hf:BP pos l=true) (hlen:l.length≤1000000):
  Calls Tryz.prog 357 #[.int .u64 pos,.slice al nl cl] w fun r w'=>r=.returned (.int .i64 ((Dj pos l).length:Int))∧Below w.heap.size w w':=by
 obtain⟨rfl,hm,_,_⟩:=AH hl;have HS:=hid (MM pos l al _ cl w hpos hl zD);have hsl:=GF pos l;have hxs:=Ga hl;have hnb:=Gw (BX pos l);have hvl:=A3 l.length;unfold Mu at HS;rw[hf] at HS;simp only[Fs] at HS;have hdl:(Dj pos l).length=(AV l.length).length+(CG (BX pos l)).length:=by unfold Dj;rw[Al]
 rw[hdl];have HMO:=hid (fun k=>IA (BX pos l) k);have HNS:=hid (fun (k:Nat) (h:k<(BX pos l).length)=>GK (BX pos l) k h);have HVS:=hid (fun (W:World)=>Dv l.length zD W);generalize BX pos l=T at*;generalize hL:l.length=L at*;have hLL:=hid hL;generalize AV L=VL at*;clear hl hf hxs hdl hL;go_enter Tryz.func357,Tryz.ntmps357;go_wp2_with fail;refine HS.out.mono ?_;rintro r w1 ⟨v,rfl,hr,hb1⟩;obtain⟨a1,c1,hv,hr2,_⟩:=AJ hr;simp only[As,AF] at hv;subst hv;rw[hsl] at hr2 ⊢;have HR:=hid (LH hr2);clear hr hr2;go_wp2_with fail;refine (HVS.out _).mono ?_;rintro r w2 ⟨rfl,hb2⟩;have hbw2:=Af hb2 hb1;go_wp2_with fail;go_loopw [7,24] (fun n i wr=>∃k m:Nat,k≤L∧i=.int .i64 k∧n=.int .i64 m∧Hid (m=VL.length+(CG (T.take k)).length)∧Below w1.heap.size w1 wr) (fun _ i _=>L-(intOf i).toNat)
 case atStart=>exact ⟨0,VL.length,At _,rfl,rfl,hid (by simp[CG]),hb2⟩
 case round=>
  obtain⟨k,m,hk,rfl,rfl,hmm,hb⟩:=hrel;have hmo:=HMO.out k;have hmk:=hmm.out;rcases Be k L with hlt | hge
  ·have hkT:k<T.length:=by omega
   obtain⟨b,o,hA,hbb,hc,hx0,hx1⟩:=FG (lift HR.out hb) hkT;subst hA;have hst:=HNS.out k hkT;have hvk:=(A3 T[k].toNat).1;have hV:=fun (W:World)=>Dv T[k].toNat zD W;rw[toNat_cast hx0] at hV;have HV3:=hid hV;have HM:Hid (m+(AV T[k].toNat).length=VL.length+(CG (T.take (k+1))).length):=hid (by rw[hst,Al];omega);have i1:(k:Int)<(L:Int):=zD;have d1:decide ((k:Int)<(L:Int))=true:=Ad i1;have hmb:m≤100000000:=zD;generalize AV T[k].toNat=VK at*;generalize T[k]=y at*;clear hV hst hmo hmk hmm;go_wp2_with fail;refine (HV3.out _).mono ?_;rintro r w5 ⟨rfl,hb5⟩;have hbw5:=Af hb5 hb;go_wp2;go_roundw
   case rel=>exact ⟨k+1,m+VK.length,zD,zT,zT,HM,hbw5⟩
   case measure=>simp [intOf];omega
  ·obtain rfl:k=L:=by omega
   have d1:decide ((k:Int)<(k:Int))=false:=Ae zD;have hfin:Hid (m=VL.length+(CG T).length):=hid (by rw[hmk,Fu (by omega)]);clear hmo hmk hmm;go_wp2;go_ret;exact⟨by rw[hfin.out];simp,Af hb hb1⟩
theorem Ly:∀(l:List Int) (k:Nat) (h:k+1<l.length),Dn l=true→l[k]<l[k+1]
 | [],k,h,_=>by simp at h
 | [x],k,h,_=>by simp at h
 | x::y::l,k,h,hr=>by
  simp only[Dn,Aq,Ar] at hr;cases k with
  | zero=>exact hr.1
  | succ k=>exact Ly (y::l) k ZP hr.2
theorem Lk:∀(l:List Ba) (p:Option Int) (k:Nat) (h:k<l.length),(D8 p l)[k]'Z2=if hk:k=0 then (match p with | none=>l[k].stream | some q=>l[k].stream-q-1) else l[k].stream-(l[k-1]'zD).stream-1
 | [],p,k,h=>by simp at h
 | x::l,p,0,h=>by cases p<;>simp [D8]
 | x::l,p,k+1,h=>by
  simp only[D8,Aj];rw[Lk l (some x.stream) k ZP];cases k with
  | zero=>simp
  | succ k=>simp
def ER(pos:Int)(p:Option Int)(l:List Ba):List (List UInt8):=List.zipWith (fun (y:Int) (x:Ba)=>AV y.toNat++Dj pos x.backs) (D8 p l) l
theorem IZ(pos:Int):∀(l:List Ba) (p:Option Int),KU pos p l=(ER pos p l).flatten
 | [],p=>rfl
 | x::l,p=>by
  simp only[KU,ER,D8,List.zipWith_cons_cons,List.flatten_cons];rw[IZ pos l (some x.stream)];rfl
theorem J6(pos:Int)(p:Option Int)(l:List Ba):(ER pos p l).length=l.length:=by simp[ER,G5]
theorem Nb{α:Type}(Z:List (List α))(k:Nat)(h:k<Z.length):(Z.take (k+1)).flatten=(Z.take k).flatten++Z[k]:=by
 rw[AR h,EY];simp
theorem JK{α:Type}(Z:List (List α))(k:Nat):(Z.take k).flatten.length≤Z.flatten.length:=by
 have:Z.flatten=(Z.take k).flatten++(Z.drop k).flatten:=by rw[←EY,Dr]
 rw[this,Al];omega
theorem M3(pos:Int)(l:List Ba)(k:Nat)(h:k<l.length):(ER pos none l)[k]'(by rw[J6];exact h)=AV ((D8 none l)[k]'Z2).toNat++Dj pos l[k].backs:=by
 simp[ER]
theorem LQ(w:World)(l:List Ba)(al:Option Addr)(nl cl:Nat)(hl:Cb.r (·<w.heap.size) w [.slice al nl cl] l)(hri:Dn (l.map Ba.stream)=true)(hlen:l.length≤1000000):
  Calls Tryz.prog 344 #[.slice al nl cl] w fun r w'=>∃v,r=.returned v∧Bw.r (fun q=>w.heap.size≤q∧q<w'.heap.size) w' [v] (D8 none l)∧Below w.heap.size w w':=by
 obtain⟨rfl,hm,_,_⟩:=AH hl;obtain⟨i0,hi,hz0,hz1,hz2⟩:=A1 Rh;have HL:=hid hl;have hul:=G5 none l;have HU:=hid (fun (k:Nat) (h:k<l.length)=>Lk l none k h);have HRI:=hid (fun (k:Nat) (h:k+1<l.length)=>(by have:=Ly (l.map Ba.stream) k ZP hri;simpa using this:l[k].stream<l[k+1].stream));clear hl hri;go_enter Tryz.func344,Tryz.ntmps344;go_wp2_with fail;go_loopw [3,9] (fun v i wr=>∃k:Nat,k≤l.length∧i=.int .i64 k∧wr.ownsRow w.heap.size 36 1 v k (CA ((D8 none l).take k))∧Hid (∀x∈(D8 none l).take k,0≤x∧x≤18446744073709551615)∧Below w.heap.size w wr) (fun _ i _=>l.length-(intOf i).toNat)
 case atStart=>exact ⟨0,At _,rfl,⟨rfl,.inl ⟨rfl,rfl⟩⟩,hid zQ,Below.refl _ _⟩
 case round=>
  obtain⟨k,hk,rfl,hown,hbd,hb⟩:=hrel;obtain⟨av,cv,rfl⟩:=AX hown;rcases Be k l.length with hlt | hge
  ·obtain⟨b,o,hA,hbb,a2,c2,x0,x1,hx,xl⟩:=DN (lift HL.out hb) hlt
   subst hA;have hu:=HU.out k hlt;have i1:(k:Int)<(l.length:Int):=zD;have d1:decide ((k:Int)<(l.length:Int))=true:=Ad i1;have hbl:b<wr.heap.size:=BV _ _ x0;have htk:CA ((D8 none l).take (k+1))=CA ((D8 none l).take k)++[.int .u64 ((D8 none l)[k]'zD)]:=by
    rw[AR zD];unfold CA;rw[Cs];rfl
   have hnb:∀y:Int,(D8 none l)[k]'zD=y→(0≤y∧y≤18446744073709551615)→∀x∈(D8 none l).take (k+1),0≤x∧x≤18446744073709551615:=fun y e hy x hx=>by
    rw[AR zD,F5,C3] at hx;rcases hx with hx | rfl
    ·exact hbd.out x hx
    ·rw[e];exact hy
   have HTK:=hid htk;have HNB:=hid hnb;have HO:=hid hown;have hz:=hb.size;rcases CZ k with rfl | hk0
   ·rw[dif_pos rfl] at hu
    (try dsimp only at hu)
    rw[hu] at HTK;have HBD:=hid (HNB.out _ hu hx);simp only[Nat.zero_mul,CR,Bj] at x0 x1;have d2:decide ((0:Int)<((0:Nat):Int))=false:=zO;generalize l[0]=y at*;clear hu htk hnb hbd hown xl hx;go_wp2_with (at_builtin;go_loud (refine AA rfl _ _ _ rfl w.heap.size 36 i0 (.int .u64 0) 1 8 JQ hi hz0 hz1 hz2 rfl zO (.slice av 0 cv) 0 _ rfl (Bp HO.out zA) (some ⟨wr.heap.size+1,0,none⟩) 1 1 [.int .u64 y.stream] rfl (BS _ 36 _ rfl zQ rfl) zAj zN zD zI ?_;intro v' w3 hown3 hgrow3 hat3;obtain⟨a3,c3,rfl⟩:=AX hown3;have HO3:=hid hown3;have hb3:Below w.heap.size wr w3:=(Below.grown ((by (repeat (first | with_reducible exact Below.refl _ _ | with_reducible assumption | (with_reducible refine Au ?_ _) | (with_reducible refine Below.setCell ?_ zE _) | (with_reducible refine Below.drew ?_) | (with_reducible refine below_drewN ?_ _) | (refine Af zG ?_))):Below wr.heap.size wr _).mono hz) hgrow3 zI (fun g e=>(HO.out.lt g e).1));clear hown3 hgrow3 hat3))
    have ho3:=HO3.out;rw[←HTK.out] at ho3;have HO4:=hid ho3;clear ho3 x0 x1;go_roundw
    case rel=>exact ⟨1,zD,zT,by simpa using HO4.out,HBD,hb.trans hb3⟩
    case measure=>simp [intOf];omega
   ·obtain⟨m,rfl⟩:∃m,k=m+1:=⟨k-1,zD⟩
    obtain⟨b',o',hA',hbb',a3,c3,y0,y1,hy,yl⟩:=DN (lift HL.out hb) (show m<l.length by omega);simp only[Bh,Ic] at hA';obtain⟨rfl,rfl,_⟩:=hA';have hri:=HRI.out m hlt;rw[dif_neg zD] at hu;simp only[Nat.add_sub_cancel] at hu;rw[hu] at HTK;have HBD:=hid (HNB.out _ hu zD);have i1':(m:Int)+1<(l.length:Int):=zD;have i2:(m:Int)<(l.length:Int):=zD;have d2:decide ((m:Int)+1<(l.length:Int))=true:=Ad i1';have d3:decide (m+1<l.length)=true:=Ad hlt;generalize l[m+1]=y at*;generalize l[m]'zD=z at*;have w1:0≤y.stream-(z.stream+1):=zD;have w2:z.stream+1≤18446744073709551615:=zD;rw[show y.stream-z.stream-1=y.stream-(z.stream+1) by omega] at HTK;clear hu htk hnb hbd hown xl yl;go_wp2_with (at_builtin;go_loud (refine AA rfl _ _ _ rfl w.heap.size 36 i0 (.int .u64 0) 1 8 JQ hi hz0 hz1 hz2 rfl zO (.slice av (m+1) cv) (m+1) _ rfl (Bp HO.out zA) (some ⟨wr.heap.size+1,0,none⟩) 1 1 [.int .u64 (y.stream-(z.stream+1))] rfl (BS _ 36 _ rfl zQ rfl) zAj zN zD zI ?_;intro v' w3 hown3 hgrow3 hat3;obtain⟨a3,c3,rfl⟩:=AX hown3;have HO3:=hid hown3;have hb3:Below w.heap.size wr w3:=(Below.grown ((by (repeat (first | with_reducible exact Below.refl _ _ | with_reducible assumption | (with_reducible refine Au ?_ _) | (with_reducible refine Below.setCell ?_ zE _) | (with_reducible refine Below.drew ?_) | (with_reducible refine below_drewN ?_ _) | (refine Af zG ?_))):Below wr.heap.size wr _).mono hz) hgrow3 zI (fun g e=>(HO.out.lt g e).1));clear hown3 hgrow3 hat3))
    have ho3:=HO3.out;rw[←HTK.out] at ho3;have HO4:=hid ho3;clear ho3 x0 x1 y0 y1;go_roundw
    case rel=>exact ⟨m+1+1,zD,zT,HO4.out,HBD,hb.trans hb3⟩
    case measure=>simp [intOf];omega
  ·obtain rfl:k=l.length:=by omega
   have d1:decide ((l.length:Int)<(l.length:Int))=false:=Ae zD;have hv:=hown;rw[Fu zD] at hv hbd;have HV:=hid (GJ hbd.out zD hv);clear hv hown;go_wp2;go_ret;exact⟨_,rfl,HV.out,hb⟩
theorem Ol(l:List Ba)(hri:Dn (l.map Ba.stream)=true)(hx:∀x∈l,0≤x.stream∧x.stream≤18446744073709551615):∀k,(h:k<l.length)→0≤(D8 none l)[k]'Z2∧(D8 none l)[k]'Z2≤18446744073709551615:=by
 intro k h;rw[Lk l none k h];have hk:=hx l[k] (AT h);split
 ·exact hk
 ·rename_i h0
  have h1:=hx (l[k-1]'zD) (AT _);have h2:=Ly (l.map Ba.stream) (k-1) zI hri;simp only[List.getElem_map,Nat.sub_add_cancel (show 1≤k by omega)] at h2;omega
theorem JC{l:List Ba}(h:Cb.r S w [.slice a n c] l):∀x∈l,OT x:=by
 intro x hx;obtain⟨i,hi,rfl⟩:=List.getElem_of_mem hx;obtain⟨b,o,_,_,a2,c2,_,_,hs,xl⟩:=DN h hi;exact⟨hs,fun y hy=>(Ga xl y hy).1⟩
theorem JE(pos:Int)(l:List Ba)(hR:BY pos l=true):(KU pos none l).length≤51*l.length:=by
 have key:∀(l:List Ba) (p:Option Int),(∀x∈l,CD pos x=true)→(KU pos p l).length≤51*l.length:=by
  intro l;induction l with
  | nil=>intro p _;simp[KU]
  | cons x l ih=>
   intro p hx;have h1:=hx x zQ;simp only[CD,Aq,Ar] at h1;have h2:=ih (some x.stream) (fun y hy=>hx y (by simp[hy]));have h3:=QR pos x.backs zD;cases p with
   | none=>
    have h4:=(A3 x.stream.toNat).1;simp only[KU,Al,AL];omega
   | some q=>
    have h4:=(A3 (x.stream-q-1).toNat).1;simp only[KU,Al,AL];omega
 simp only[BY,Aq,Ar,List.all_eq_true] at hR;exact key l none hR.2.2
theorem Ti(w:World){g base most:Nat}{J:List UInt8}{a:Option Addr}(h:Bn w g base most J a c)(pos:Int)(hpos:0≤pos∧pos≤18446744073709551615)(l:List Ba)(al:Option Addr)(nl cl:Nat)
 (hl:Cb.r (fun q=>q<w.heap.size∧¬C5 g a q) w [.slice al nl cl] l) (hR:BY pos l=true) (hbk:∀x∈l,x.backs.length≤1000000) (hfit:J.length+(DS pos l).length≤most) (hln2:J.length+(DS pos l).length≤100000000000000):
  Calls Tryz.prog 300 #[.pointer (some ⟨g,0,none⟩),.int .u64 pos,.slice al nl cl] w fun r w'=>r=.returned (.tuple #[])∧Az w g base most (J++DS pos l) a w':=by
 obtain⟨rfl,hm,_,_⟩:=AH hl;have hN:=JC hl;have HRT:=hid (I0 pos l al _ cl w hpos (Gb hl) (fun x hx=>zAz));have hR':=hR;simp only[BY,Aq,Ar,List.all_eq_true] at hR';rw[hR] at HRT;have hlk:∀x∈l,BP pos x.backs=true:=fun x hx=>by have:=hR'.2.2 x hx;simp only[CD,Aq] at this;exact this.2
 have HLK:=hid hlk;have HBK:=hid hbk;have hup:=hid (Ol l hR'.2.1 (fun x hx=>(hN x hx).1));have hul:=G5 none l;have hzl:=J6 pos none l;have HSP:=hid (fun (W:World) (hW:Cb.r (·<W.heap.size) W [.slice al l.length cl] l)=>LQ W l al _ cl hW hR'.2.1 zD);have hdl:(DS pos l).length=(AV l.length).length+((ER pos none l).flatten).length:=zBy;rw[hdl] at hfit hln2;unfold DS;rw[IZ];have HP:=hid h;have HL:=hid hl;have hvl:=A3 l.length;have HV:=hid (fun (W:World) (hW:Below w.heap.size w W)=>Cl W (h.later hW) l.length zD zD zD);have HMO:=hid (fun k=>JK (ER pos none l) k);have HNS:=hid (fun (k:Nat) (h:k<l.length)=>(by have:=Nb (ER pos none l) k zD;rw[M3 pos l k h] at this;exact this:((ER pos none l).take (k+1)).flatten=((ER pos none l).take k).flatten++(AV ((D8 none l)[k]'Z2).toNat++Dj pos l[k].backs)));generalize ER pos none l=Z at*;have hll:l.length≤16:=hR'.1;clear h hl hR hR' hlk hbk hN hdl;go_enter Tryz.func300,Tryz.ntmps300;go_wp2_with fail;refine HRT.out.mono ?_;rintro r w1 ⟨rfl,hb1⟩;go_wp2_with fail;refine (HV.out _ hb1).mono ?_;rintro r w2 ⟨rfl,a2,c2,hp2,ht2,ha2⟩;have hd2:=Ef ht2 ha2 (Fy hb1 HL.out);have HP2:=hid hp2;have HD2:=hid hd2;have HT2:=hid (And.intro ht2 ha2);clear hp2 hd2 ht2 ha2;go_wp2_with fail;refine (HSP.out w2 (Gb HD2.out)).mono ?_;rintro r w3 ⟨v3,rfl,hr3,hb3⟩;obtain⟨a3,c3,hv3,hr3',_⟩:=AJ hr3;simp only[As,AF] at hv3;subst hv3;have HR3:=hid (GI HP2.out hr3');have HD3:=hid (Fy hb3 HD2.out);have HP3:=hid (HP2.out.later hb3);rw[hul] at HR3 ⊢;clear hr3 hr3';go_wp2_with fail;go_loopw [22] (fun i wr=>∃k:Nat,k≤l.length∧i=.int .i64 k∧Hid (Az w3 g base most (J++AV l.length++(Z.take k).flatten) a2 wr)) (fun i _=>l.length-(intOf i).toNat)
 case atStart=>exact ⟨0,At _,rfl,hid (by simpa using Az.refl HP3.out)⟩
 case round=>
  obtain⟨k,hk,rfl,hp⟩:=hrel;obtain⟨a4,c4,hp4,ht4,ha4⟩:=hp.out;rcases Be k l.length with hlt | hge
  ·have hr4:=Ef ht4 ha4 HR3.out
   have hd4:=Ef ht4 ha4 HD3.out;obtain⟨b,o,hA,hbb,hc,hx0,hx1⟩:=FG hr4 (show k<(D8 none l).length by omega);obtain⟨b',o',hA',hbb',a5,c5,y0,y1,hs,yl⟩:=DN hd4 hlt;subst hA hA';have hst:=HNS.out k hlt;have hfk:=HMO.out (k+1);rw[hst,Al,Al] at hfk;have hvk:=(A3 ((D8 none l)[k]'zD).toNat).1;have hJ4:=hp4.len;simp only[Al] at hJ4;have hV:=Cl wr hp4 ((D8 none l)[k]'zD).toNat zD zR zR;rw[toNat_cast hx0] at hV;have HV4:=hid hV;have HT4:=hid (And.intro ht4 ha4);have HYL:=hid yl;have HST:=hid hst;have HFK:=hid hfk;have hfl:=HLK.out l[k] (AT hlt);have hbl:=HBK.out l[k] (AT hlt);have HFL:=hid hfl;have HDY:=hid (And.intro hbb' y1);have i1:(k:Int)<(l.length:Int):=zD;have d1:decide ((k:Int)<(l.length:Int))=true:=Ad i1;clear hV hr4 hd4 hst hp4 ht4 ha4 hp hfk hvk hJ4 hfl y0 yl y1 hbb';generalize (D8 none l)[k]'zD=u at*;generalize l[k]=y at*;go_wp2_with fail;refine HV4.out.mono ?_;rintro r w5 ⟨rfl,a6,c6,hp5,ht5,ha5⟩;have Y1:w5.cell? ⟨b',o'+k*2+1,none⟩=some (.slice a5 y.backs.length c5):=(ht5.cell (p:=⟨b',o'+k*2+1,none⟩) HDY.out.1.1 HDY.out.1.2).trans HDY.out.2;have hy5:=Gb (Ef ht5 ha5 HYL.out);have HD5:=hid (So w5 hp5 pos hpos y.backs a5 _ c5 hy5 HFL.out hbl zBr zBr);have HT5:=hid (And.intro ht5 ha5);clear hy5 hp5 ht5 ha5 hc;go_wp2_with fail;refine HD5.out.mono ?_;rintro r w6 ⟨rfl,hst6⟩;have hn:=Az.trans (J:=J) HT4.out.1 HT4.out.2 (Az.trans (J:=J) HT5.out.1 HT5.out.2 hst6);rw[AB,AB (J++AV l.length),←HST.out] at hn;have HN:=hid hn;clear hst6 hn Y1;go_wp2;go_roundw
   case rel=>exact ⟨k+1,zD,zT,HN⟩
   case measure=>simp [intOf];omega
  ·obtain rfl:k=l.length:=by omega
   have d1:decide ((l.length:Int)<(l.length:Int))=false:=Ae zD;rw[Fu zD] at hp;have hn:=Az.later hb1 (Az.trans (J:=J) HT2.out.1 HT2.out.2 (Az.later hb3 hp.out));rw[AB] at hn;have HN:=hid hn;clear hp hp4 ht4 ha4 hn;go_wp2;first | go_end0 | refine An (AO rfl _ _ _) rfl ?_
   exact⟨rfl,HN.out⟩
theorem Sa(w:World)(pos:Int)(hpos:0≤pos∧pos≤18446744073709551615)(l:List Ba)(al:Option Addr)(nl cl:Nat)
 (hl:Cb.r (·<w.heap.size) w [.slice al nl cl] l) (hR:BY pos l=true) (hbk:∀x∈l,x.backs.length≤1000000):
  Calls Tryz.prog 338 #[.int .u64 pos,.slice al nl cl] w fun r w'=>r=.returned (.int .i64 ((DS pos l).length:Int))∧Below w.heap.size w w':=by
 obtain⟨rfl,hm,_,_⟩:=AH hl;have hN:=JC hl;have HRT:=hid (I0 pos l al _ cl w hpos hl (fun x hx=>zAz));have hR':=hR;simp only[BY,Aq,Ar,List.all_eq_true] at hR';rw[hR] at HRT;have hlk:∀x∈l,BP pos x.backs=true:=fun x hx=>by have:=hR'.2.2 x hx;simp only[CD,Aq] at this;exact this.2
 have HLK:=hid hlk;have HBK:=hid hbk;have hul:=G5 none l;have hzl:=J6 pos none l;have HSP:=hid (fun (W:World) (hW:Cb.r (·<W.heap.size) W [.slice al l.length cl] l)=>LQ W l al _ cl hW hR'.2.1 zD);have hdl:(DS pos l).length=(AV l.length).length+((ER pos none l).flatten).length:=zBy;have hle:=JE pos l hR;rw[IZ] at hle;rw[hdl];have HL:=hid hl;have hvl:=A3 l.length;have HV:=hid (fun (W:World)=>Dv l.length zD W);have HMO:=hid (fun k=>JK (ER pos none l) k);have HNS:=hid (fun (k:Nat) (h:k<l.length)=>(by have:=Nb (ER pos none l) k zD;rw[M3 pos l k h] at this;exact this:((ER pos none l).take (k+1)).flatten=((ER pos none l).take k).flatten++(AV ((D8 none l)[k]'Z2).toNat++Dj pos l[k].backs)));generalize ER pos none l=Z at*;generalize AV l.length=VL at*;have hll:l.length≤16:=hR'.1;clear hl hR hR' hlk hbk hN hdl;go_enter Tryz.func338,Tryz.ntmps338;go_wp2_with fail;refine HRT.out.mono ?_;rintro r w1 ⟨rfl,hb1⟩;go_wp2_with fail;refine (HV.out w1).mono ?_;rintro r w2 ⟨rfl,hb2⟩;have hb12:=Af hb2 hb1;go_wp2_with fail;refine (HSP.out w2 (lift HL.out hb12)).mono ?_;rintro r w3 ⟨v3,rfl,hr3,hb3⟩;obtain⟨a3,c3,hv3,hr3',_⟩:=AJ hr3;simp only[As,AF] at hv3;subst hv3;have HR3:=hid (LH hr3');have hbw3:=Af hb3 hb12;rw[hul] at HR3 ⊢;clear hr3 hr3';go_wp2_with fail;go_loopw [5,19] (fun n i wr=>∃k m:Nat,k≤l.length∧i=.int .i64 k∧n=.int .i64 m∧Hid (m=VL.length+(Z.take k).flatten.length)∧Below w3.heap.size w3 wr) (fun _ i _=>l.length-(intOf i).toNat)
 case atStart=>exact ⟨0,VL.length,At _,rfl,rfl,hid zQ,Below.refl _ _⟩
 case round=>
  obtain⟨k,m,hk,rfl,rfl,hmm,hb⟩:=hrel;have hmo:=HMO.out k;have hmk:=hmm.out;rcases Be k l.length with hlt | hge
  ·obtain⟨b,o,hA,hbb,hc,hx0,hx1⟩:=FG (lift HR3.out hb) (show k<(D8 none l).length by omega)
   have hbw:=Af hb hbw3;obtain⟨b',o',hA',hbb',a5,c5,y0,y1,hs,yl⟩:=DN (lift HL.out hbw) hlt;subst hA hA';have hst:=HNS.out k hlt;have hfk:=HMO.out (k+1);rw[hst,Al,Al] at hfk;have HV4:=hid (fun (W:World)=>(by have:=Dv ((D8 none l)[k]'zD).toNat zD W;rw[toNat_cast hx0] at this;exact this:Calls Tryz.prog 245 #[.int .u64 ((D8 none l)[k]'zD)] W fun r w'=>r=.returned (.int .i64 (AV ((D8 none l)[k]'zD).toNat).length)∧Below W.heap.size W w'));have hfl:=HLK.out l[k] (AT hlt);have hbl:=HBK.out l[k] (AT hlt);have HD4:=hid (fun s:AE wr=>QQ s.at_ pos hpos l[k].backs a5 _ c5 (lift yl s.below) hfl hbl);have HV5:=hid (fun s:AE wr=>HV4.out s.at_);have HM:Hid (m+((AV ((D8 none l)[k]'zD).toNat).length+(Dj pos l[k].backs).length)=VL.length+(Z.take (k+1)).flatten.length):=hid (by rw[hst];simp only[Al];omega);have hmb:m≤1000000:=zD;have hd1:(AV ((D8 none l)[k]'zD).toNat).length≤1000000∧(Dj pos l[k].backs).length≤1000000:=zD;have i1:(k:Int)<(l.length:Int):=zD;have d1:decide ((k:Int)<(l.length:Int))=true:=Ad i1;have Y1:=fun s:AE wr=>s.cell y1;generalize AV ((D8 none l)[k]'zD).toNat=VK at*;generalize Dj pos l[k].backs=DK at*;generalize (D8 none l)[k]'zD=u at*;generalize l[k]=y at*;clear HV4 hst hmo hmk hmm hfk hfl yl y0;go_wp2_with fail;refine Ax zJ zJ ?_;repeat (go_big_quiet_step ((first | (go_at_call 245;with_reducible exact A9 (HV5.out _)) | (go_at_call 357;with_reducible exact A9 (HD4.out _)))))
   refine AI ?_;rintro W5 ⟨⟨W5',hb5⟩,rfl⟩;have hbw5:=Af hb5 hb;clear Y1;go_wp2;go_roundw
   case rel=>exact ⟨k+1,m+(VK.length+DK.length),zD,zT,zT,HM,hbw5⟩
   case measure=>simp [intOf];omega
  ·obtain rfl:k=l.length:=by omega
   have d1:decide ((l.length:Int)<(l.length:Int))=false:=Ae zD;have hfin:Hid (m=VL.length+Z.flatten.length):=hid (by rw[hmk,Fu (by omega)]);clear hmo hmk hmm;go_wp2;go_ret;exact⟨by rw[hfin.out];simp,Af hb hbw3⟩
def IC(pos:Int)(e:Entry):Nat:=if Dq pos e=true then (FT pos e).length else 0
theorem LZ(pos:Int)(e:Entry):IC pos e≤1000:=by
 unfold IC;split
 ·rename_i h
  simp only[Dq,Aq] at h;have h1:=JE pos e.links h.1;have h2:=h.1;simp only[BY,Aq,Ar] at h2;have h3:=(A3 e.links.length).1;have h4:=(A3 e.data.length).1;simp only[FT,DS,Al];omega
 ·omega
theorem Uo(h:Blk w g t #[v0,v1]):w.cell? ⟨g,0,none⟩=some v0∧w.cell? ⟨g,1,none⟩=some v1∧g<w.heap.size:=
 ⟨h.cell 0,h.cell 1,h.lt⟩
theorem Ma(w:World)(pos:Int)(hpos:0≤pos∧pos≤18446744073709551615)(e:Entry)(a1 a2:Option Addr)(n1 c1 n2 c2:Nat)
 (hl:Cb.r (·<w.heap.size) w [.slice a1 n1 c1] e.links) (hd:Ag.r (·<w.heap.size) w [.slice a2 n2 c2] e.data) (hbk:∀x∈e.links,x.backs.length≤1000000):
  Calls Tryz.prog 279 #[.int .u64 pos,.agg #[.slice a1 n1 c1,.slice a2 n2 c2]] w fun r w'=>r=.returned (.int .i64 (IC pos e:Int))∧Below w.heap.size w w':=by
 obtain⟨rfl,hm1,_,_⟩:=AH hl;obtain⟨rfl,hm2,_,_⟩:=AH hd;have HER:=hid (fun (W:World) (hW:Below w.heap.size w W)=>Ht pos e a1 a2 _ c1 _ c2 W hpos (fun x hx=>zAz) (lift hl hW) (lift hd hW));unfold IC;cases hR:Dq pos e
 ·rw[hR] at HER
  rw[Ah zQ];go_enter Tryz.func279,Tryz.ntmps279;go_wp2_with fail;refine (HER.out _ zA).mono ?_;rintro r w1 ⟨rfl,hb1⟩;go_wp2;go_ret;exact⟨rfl,zA⟩
 ·rw[hR] at HER
  rw[Ai rfl];have hR':=hR;simp only[Dq,Aq,Ar] at hR';have hbl:(FT pos e).length=(DS pos e.links).length+(AV e.data.length).length:=by unfold FT;rw[Al]
  have hle:=LZ pos e;unfold IC at hle;rw[Ai hR,hbl] at hle;rw[hbl];have HLS:=hid (fun (W:World) (hW:Below w.heap.size w W)=>Sa W pos hpos e.links a1 _ c1 (lift hl hW) hR'.1 hbk);have HVS:=hid (fun (W:World)=>Dv e.data.length zD W);have hdl:=hR'.2;generalize AV e.data.length=V at*;generalize DS pos e.links=LB at*;clear hl hd hR hR' hbl;go_enter Tryz.func279,Tryz.ntmps279;go_wp2_with fail;refine (HER.out _ zA).mono ?_;rintro r w1 ⟨rfl,hb1⟩;have B1:=Blk.later (Blk.newAt w 180 #[.slice a1 e.links.length c1,.slice a2 e.data.length c2] rfl) hb1;have hbw1:Below w.heap.size w w1:=zA;have C0:=fun s:AE w1=>s.cell (B1.cell 0);have C1:=fun s:AE w1=>s.cell (B1.cell 1);simp at C0 C1;have HS1:=hid (fun s:AE w1=>HLS.out s.at_ (Af s.below hbw1));have HS2:=hid (fun s:AE w1=>HVS.out s.at_);clear B1 hb1;go_wp2_with fail;refine Ax zJ zJ ?_;repeat (go_big_quiet_step ((first | (go_at_call 338;with_reducible exact A9 (HS1.out _)) | (go_at_call 245;with_reducible exact A9 (HS2.out _)))))
  refine AI ?_;rintro W5 ⟨⟨W5',hb5⟩,rfl⟩;clear C0 C1;go_wp2;go_ret;exact⟨zQ,Af hb5 hbw1⟩
theorem MI(w:World){g base most:Nat}{J:List UInt8}{a:Option Addr}(h:Bn w g base most J a c)(pos:Int)(hpos:0≤pos∧pos≤18446744073709551615)(e:Entry)(a1 a2:Option Addr)(n1 c1 n2 c2:Nat)
 (hl:Cb.r (fun q=>q<w.heap.size∧¬C5 g a q) w [.slice a1 n1 c1] e.links) (hd:Ag.r (·<w.heap.size) w [.slice a2 n2 c2] e.data) (hR:Dq pos e=true) (hbk:∀x∈e.links,x.backs.length≤1000000) (hfit:J.length+(FT pos e).length≤most) (hln2:J.length+(FT pos e).length≤100000000000000):
  Calls Tryz.prog 280 #[.pointer (some ⟨g,0,none⟩),.int .u64 pos,.agg #[.slice a1 n1 c1,.slice a2 n2 c2]] w fun r w'=>r=.returned (.tuple #[])∧Az w g base most (J++FT pos e) a w':=by
 obtain⟨rfl,hm1,_,_⟩:=AH hl;obtain⟨rfl,hm2,_,_⟩:=AH hd;have HER:=hid (fun (W:World) (hW:Below w.heap.size w W)=>Ht pos e a1 a2 _ c1 _ c2 W hpos (fun x hx=>zAz) (lift (Gb hl) hW) (lift hd hW));rw[hR] at HER;have hR':=hR;simp only[Dq,Aq,Ar] at hR';have hbl:(FT pos e).length=(DS pos e.links).length+(AV e.data.length).length:=by unfold FT;rw[Al]
 rw[hbl] at hfit hln2;have hhb:FT pos e=DS pos e.links++AV e.data.length:=rfl;rw[hhb];have HPT:=hid (fun (W:World) (hW:Below w.heap.size w W)=>Ti W (h.later hW) pos hpos e.links a1 _ c1 (Fy hW hl) hR'.1 hbk zD zD);have HP:=hid h;have hdl:=hR'.2;generalize DS pos e.links=LB at*;clear h hl hd hR hR' hbl hhb;go_enter Tryz.func280,Tryz.ntmps280;go_wp2_with fail;refine (HER.out _ zA).mono ?_;rintro r w1 ⟨rfl,hb1⟩;have B1:=Blk.later (Blk.newAt w 180 #[.slice a1 e.links.length c1,.slice a2 e.data.length c2] rfl) hb1;obtain⟨x0,x1,l1⟩:=Uo B1;have hbw1:Below w.heap.size w w1:=zA;have hgl:=HP.out.blk.lt;have HLT:=hid (fun q (hq:C5 g a q)=>(HP.out.Bo hq).2);have HB1:=hid B1;clear B1 hb1;go_wp2_with fail;refine (HPT.out _ hbw1).mono ?_;rintro r w2 ⟨rfl,a3,c3,hp2,ht2,ha2⟩;have B2:=HB1.out.tch ht2 (fun hf=>zBo);obtain⟨y0,y1,l2⟩:=Uo B2;have HV:=hid (Cl w2 hp2 e.data.length zD zR zR);have HT:=hid (And.intro ht2 ha2);clear B2 hp2 ht2 ha2 x0 x1;go_wp2_with fail;refine HV.out.mono ?_;rintro r w3 ⟨rfl,hst⟩;have hn:=Az.later hbw1 (Az.trans (J:=J) HT.out.1 HT.out.2 hst);rw[AB] at hn;have HN:=hid hn;clear hst hn;go_wp2;first | go_end0 | refine An (AO rfl _ _ _) rfl ?_
 exact⟨rfl,HN.out⟩
theorem L8(w:World){g base most:Nat}{J:List UInt8}{a:Option Addr}(h:Bn w g base most J a c)(x:Nat)(hx:x<18446744073709551616)(hfit:J.length+(AV x).length≤most)(hlen:J.length+(AV x).length≤100000000000000):
  Calls Tryz.prog 237 #[.pointer (some ⟨g,0,none⟩),.int .u64 x,.bool true] w fun r w'=>r=.returned (.tuple #[])∧Az w g base most (J++AV x) a w':=by
 have HV:=hid (Cl w h x hx hfit hlen);clear h;go_enter Tryz.func237,Tryz.ntmps237;go_wp2_with fail;refine HV.out.mono ?_;rintro r w1 ⟨rfl,hst⟩;have HST:=hid hst;clear hst;go_wp2;first | go_end0 | refine An (AO rfl _ _ _) rfl ?_
 exact⟨rfl,HST.out⟩
theorem Kd(w:World){g base most:Nat}{J:List UInt8}{a:Option Addr}(h:Bn w g base most J a c)(x:Nat)(hx:epR (x:Int)=true)(hfit:J.length+(AV x).length≤most)(hlen:J.length+(AV x).length≤100000000000000):
  Calls Tryz.prog 162 #[.pointer (some ⟨g,0,none⟩),.int .u64 x] w fun r w'=>r=.returned (.tuple #[])∧Az w g base most (J++AV x) a w':=by
 have hx':=hx;simp only[epR,Ar] at hx';have HR:=hid (DW (x:Int) w);rw[hx] at HR;have HV:=hid (L8 w h x zD hfit hlen);clear h hx hx';go_enter Tryz.func162,Tryz.ntmps162;go_wp2_with fail;refine HR.out.mono ?_;rintro r w1 ⟨rfl,rfl⟩;go_wp2_with fail;refine HV.out.mono ?_;rintro r w1 ⟨rfl,hst⟩;have HST:=hid hst;clear hst;go_wp2;first | go_end0 | refine An (AO rfl _ _ _) rfl ?_
 exact⟨rfl,HST.out⟩
theorem JM(w:World){g base most:Nat}{J:List UInt8}{a:Option Addr}(h:Bn w g base most J a c)(x:Nat)(hx:poR (x:Int)=true)(hfit:J.length+(AV x).length≤most)(hlen:J.length+(AV x).length≤100000000000000):
  Calls Tryz.prog 261 #[.pointer (some ⟨g,0,none⟩),.int .u64 x] w fun r w'=>r=.returned (.tuple #[])∧Az w g base most (J++AV x) a w':=by
 have hx':=hx;simp only[poR,Ar] at hx';have HR:=hid (GA (x:Int) w);rw[hx] at HR;have HV:=hid (L8 w h x zD hfit hlen);clear h hx hx';go_enter Tryz.func261,Tryz.ntmps261;go_wp2_with fail;refine HR.out.mono ?_;rintro r w1 ⟨rfl,rfl⟩;go_wp2_with fail;refine HV.out.mono ?_;rintro r w1 ⟨rfl,hst⟩;have HST:=hid hst;clear hst;go_wp2;first | go_end0 | refine An (AO rfl _ _ _) rfl ?_
 exact⟨rfl,HST.out⟩
theorem CI(h:Blk w g t #[v0,v1,v2]):w.cell? ⟨g,0,none⟩=some v0∧w.cell? ⟨g,1,none⟩=some v1∧w.cell? ⟨g,2,none⟩=some v2∧w.frozen? ⟨g,0,none⟩=false∧w.frozen? ⟨g,1,none⟩=false∧w.frozen? ⟨g,2,none⟩=false∧g<w.heap.size:=
 ⟨h.cell 0,h.cell 1,h.cell 2,h.free 0,h.free 1,h.free 2,h.lt⟩
theorem N7{m:Nat}(hl:l=[])(hm:m=0)(hc:c≤9223372036854775807):Ag.r S w [.slice a m c] l:=by
 subst hl hm;exact BL (xs:=[]) rfl (At _) hc (.inl rfl)
theorem S9(w:World){g most:Nat}(h:Bn w g base most J a c)(k:Int):
  Calls Tryz.prog 164 #[.pointer (some ⟨g,0,none⟩),.int .i64 k] w fun r w'=>r=.returned (.tuple #[])∧Blk w' g 276 #[.int .i64 most,.slice a J.length c,.int .i64 k]∧Tch (·=g) w w':=by
 have HC:=hid (Jv w h);have HB:=hid h.blk;have c2:w.cell? ⟨g,2,none⟩=some (.int .i64 0):=h.blk.cell 2;have f2:=h.blk.free 2;have hgl:=h.blk.lt;clear h;go_enter Tryz.func164,Tryz.ntmps164;go_wp2_with fail;refine HC.out.mono ?_;rintro r w1 ⟨rfl,rfl⟩;go_wp2;first | go_end0 | refine An (AO rfl _ _ _) rfl ?_
 exact⟨rfl,HB.out.set 2 _,Tch.setCell (F:=(·=g)) (p:=⟨g,2,none⟩) (Tch.refl _ _) (fun _=>rfl) _⟩
theorem MA(w:World){k:Int}(hk:k≠0)(h:Blk w g 276 #[v0,v1,.int .i64 k]):
  Calls Tryz.prog 165 #[.pointer (some ⟨g,0,none⟩)] w fun r w'=>r=.returned (.tuple #[.slice none 0 0,.int .i64 k])∧w=w':=by
 have HC:Hid (Calls Tryz.prog 235 #[.pointer (some ⟨g,0,none⟩)] w fun r w'=>r=.returned (.int .i64 k)∧w=w'):=hid (by
  have c2:w.cell? ⟨g,2,none⟩=some (.int .i64 k):=h.cell 2;clear h;go_enter Tryz.func235,Tryz.ntmps235;go_wp2;go_ret;exact⟨rfl,rfl⟩)
 have d1:(k==(0:Int))=false:=zA0;have d2:(k !=(0:Int))=true:=zA0;clear h hk;go_enter Tryz.func165,Tryz.ntmps165;go_wp2_with fail;refine HC.out.mono ?_;rintro r w1 ⟨rfl,rfl⟩;go_wp2;go_ret2
 exact⟨rfl,rfl⟩
theorem Tc{size:Nat}{cap:Nat}{cs:Array Value}(h:Blk W g e cs)(hb:base≤g)(hc:cap≤maxLen)(hs:cs.size=cap*size):W.ownsRow base e size (.slice (some ⟨g,0,none⟩) 0 cap) 0 []:=
 ⟨zQ,.inr ⟨g,cap,cs,rfl,hb,h,At _,hc,by simpa using hs,zQ⟩⟩
theorem QL(l:List Entry)(a:Option Addr)(n c:Nat)(w:World)(hl:AW.r (·<w.heap.size) w [.slice a n c] l)(ht:total l≤1000000000000):
  Calls Tryz.prog 281 #[.slice a n c] w fun r w'=>∃v,r=.returned v∧Ag.r (fun q=>w.heap.size≤q∧q<w'.heap.size) w' [v] (CQ l)∧Below w.heap.size w w':=by
 obtain⟨rfl,hm,_,_⟩:=AH hl;obtain⟨i0,hi,hz0,hz1,hz2⟩:=A1 Eu;have HT:=hid (Hs l a _ c w hl ht);have HL:=hid hl;clear hl;obtain⟨T,hT⟩:∃T,T=total l:=⟨_,rfl⟩;have hmk:∀W:World,(Instr.makeSlice 22 (.int .i64 0) (.int .i64 (T:Int))).run Tryz.prog W=.ok (.slice (some ⟨W.heap.size,0,none⟩) 0 T) (W.alloc (.cells (madeCells #[Value.int .u8 0] T) 5)):=fun W=>by
  have:=run_make (P:=Tryz.prog) (w:=W) 22 5 i0 (.int .u8 0) AG hi hz0 .i64 .i64 0 (T:Int) zD zD (by rw[hz2];omega) zD;rw[hz1] at this;simp only[Gr,Int.toNat_zero,DG] at this;exact this
 have HJ:=hid (Dh l);rw[←hT] at HT;have hTt:=hid hT;have hTb:T≤1000000000000:=zD;clear hT;go_enter Tryz.func281,Tryz.ntmps281;go_wp2_with fail;refine HT.out.mono ?_;rintro r w1 ⟨rfl,hb1⟩;go_wp2_with fail;have hbW:Below w1.heap.size w1 (w1.alloc (.cells (madeCells #[Value.int .u8 0] T) 5)):=zA;have hown0:(w1.alloc (.cells (madeCells #[Value.int .u8 0] T) 5)).ownsRow w.heap.size 5 1 (.slice (some ⟨w1.heap.size,0,none⟩) 0 T) 0 []:=Tc (Blk.newAt _ _ _ rfl) hb1.size zN (by rw[size_madeCells];omega);have HOWN0:=hid hown0;have HBW:=hid hbW;clear hown0 hbW;generalize w1.alloc (.cells (madeCells #[Value.int .u8 0] T) 5)=W at*;go_loopw [3,11] (fun v i wr=>∃k:Nat,k≤l.length∧i=.int .i64 k∧wr.ownsRow w.heap.size 5 1 v (total (l.take k)) (byteCells (CQ (l.take k)))∧Below w.heap.size w wr) (fun _ i _=>l.length-(intOf i).toNat)
 case atStart=>exact ⟨0,At _,rfl,by simpa [total,CQ,byteCells] using HOWN0.out,Af HBW.out hb1⟩
 case round=>
  obtain⟨k,hk,rfl,hown,hb⟩:=hrel;obtain⟨av,cv,rfl⟩:=AX hown;by_cases hlt:k<l.length
  ·obtain⟨b,o,hA,hbb,a1,c1,a2,c2,hc0,hc1,_,hd⟩:=Eh (lift HL.out hb) hlt
   subst hA;have hbl:b<wr.heap.size:=BV _ _ hc0;have hs:=hid (IK l k hlt);have hj:=hid (KC l k hlt);have h1:=Gs l (k+1);rw[hs.out,←hTt.out] at h1;have hbW2:Below wr.heap.size wr (wr.alloc (.cells #[.slice a1 l[k].links.length c1,.slice a2 l[k].data.length c2] 180)):=zA;have hsrc:=BH (lift hd hbW2);have hone:=A7 l[k].data;have HO:=hid (Bp hown hbW2);have hbz:Below w.heap.size wr (wr.alloc (.cells #[.slice a1 l[k].links.length c1,.slice a2 l[k].data.length c2] 180)):=hbW2.mono hb.size;generalize l[k].data=D at*;generalize l[k].links=LK at*;generalize CQ (l.take k)=J at*;generalize total (l.take k)=t at*;have HSRC:=hid hsrc;clear hsrc hd;have HONE:=hid hone;clear hone hown hbW2;have hbs:=hb.size;have i1:(k:Int)<(l.length:Int):=zD;have d1:decide ((k:Int)<(l.length:Int))=true:=Ad i1;have HBZ:=hid hbz;clear hbz;go_wp2_with (at_builtin;go_loud (refine AA rfl _ _ _ rfl w.heap.size 5 i0 (.int .u8 0) 1 1 AG hi hz0 hz1 hz2 rfl zO (.slice av t cv) t _ rfl HO.out a2 D.length c2 (byteCells D) rfl HSRC.out HONE.out zN zD zI ?_;intro v' w3 hown3 hgrow3 hat3;obtain⟨a3,c3,rfl⟩:=AX hown3;have HO3:=hid hown3;have hb3:Below w.heap.size wr w3:=(Below.grown HBZ.out hgrow3 zI (fun g e=>(HO.out.lt g e).1));clear hown3 hgrow3 hat3))
   have ho3:=HO3.out;have HO4:Hid (w3.ownsRow w.heap.size 5 1 (.slice a3 (t+D.length) c3) (total (l.take (k+1))) (byteCells (CQ (l.take (k+1))))):=hid (by rw[hs.out,hj.out,byteCells,Cs];exact ho3);clear ho3 hc0 hc1;go_roundw
   case rel=>exact ⟨k+1,zD,zT,HO4.out,hb.trans hb3⟩
   case measure=>simp [intOf];omega
  ·obtain rfl:k=l.length:=by omega
   have d1:decide ((l.length:Int)<(l.length:Int))=false:=Ae zD;rw[BW] at hown ⊢;have HV:=hid (Cg (Dh l).symm hown);clear hown;go_wp2;go_ret;exact⟨_,rfl,HV.out,hb⟩
theorem Hu:∀(l:List Entry) (p:Int) (k:Nat) (h:k<l.length),Cc p l=true→Dq (p+k) l[k]=true
 | [],p,k,h,_=>by simp at h
 | e::l,p,0,h,hR=>by simp only[Cc,Aq] at hR;simpa using hR.1
 | e::l,p,k+1,h,hR=>by
  simp only[Cc,Aq] at hR;have:=Hu l (p+1) k ZP hR.2;rw[Aj,show p+((k+1:Nat):Int)=p+1+(k:Int) by omega];exact this
theorem Hl:∀(l:List Entry) (p:Int) (k:Nat) (h:k<l.length),Ch p (l.take (k+1))=Ch p (l.take k)++FT (p+k) l[k]
 | [],p,k,h=>by simp at h
 | e::l,p,0,h=>by simp[Ch]
 | e::l,p,k+1,h=>by
  have:=Hl l (p+1) k ZP;simp only[BQ,Ch,Aj];rw[this,show p+((k+1:Nat):Int)=p+1+(k:Int) by omega,AB]
theorem Se(l:List Entry)(p:Int):∀k,(Ch p (l.take k)).length≤(Ch p l).length:=by
 intro k;induction l generalizing p k with
 | nil=>simp
 | cons e l ih=>
  cases k with
  | zero=>simp [Ch]
  | succ k=>simp only[BQ,Ch,Al];have:=ih (p+1) k;omega
structure IF(l:List Entry):Prop where
 len:l.length≤1000
 tot:total l≤10000000
 backs:∀e∈l,∀x∈e.links,x.backs.length≤1000000
theorem IF.fair{l:List Entry}(h:IF l):Fair l:=⟨by have:=h.tot;omega,by have:=h.len;omega,fun e he x hx=>by have:=h.backs e he x hx;omega⟩
theorem Q3(w:World)(b:Batch)(a:Option Addr)(n c:Nat)(h0:0≤b.epoch∧b.epoch≤18446744073709551615)(h1:0≤b.base∧b.base≤18446744073709551615)(hl:AW.r (·<w.heap.size) w [.slice a n c] b.entries)(ht:IF b.entries):
  Calls Tryz.prog 221 #[.agg #[.int .u64 b.epoch,.int .u64 b.base,.slice a n c]] w fun r w'=>∃M:Nat,r=.returned (.int .i64 (M:Int))∧M≤100000000∧(A4 b=true→40+(AV (total b.entries)).length+total b.entries+(Ch b.base b.entries).length≤M)∧Below w.heap.size w w':=by
 obtain⟨rfl,hm,_,_⟩:=AH hl;have hle:=ht.len;have hto:=ht.tot;have HTO:=hid (fun (W:World) (hW:Below w.heap.size w W)=>Hs b.entries a _ c W (lift hl hW) zD);have HBS:=hid (fun (W:World)=>Im (total b.entries) zD W);have hvb:=(A3 (total b.entries)).1;have HBK:=hid ht.backs;have HRE:=hid (fun (h:A4 b=true) (k:Nat) (hk:k<b.entries.length)=>(by simp only[A4,Aq] at h;exact⟨Hu b.entries b.base k hk h.2.2.2,by have:=h.2.1;simp only[Dc,Ar] at this;omega⟩:Dq (b.base+k) b.entries[k]=true∧b.base+b.entries.length≤4611686018427387904));have HHS:=hid (fun (k:Nat) (hk:k<b.entries.length)=>Hl b.entries b.base k hk);have HL:=hid hl;obtain⟨ep,bs,l⟩:=b;dsimp only at*;generalize hRR:A4 ⟨ep,bs,l⟩=R at*;generalize AV (total l)=VT at*;generalize total l=T at*;clear hl ht hRR;go_enter Tryz.func221,Tryz.ntmps221;go_wp2_with fail;refine (HTO.out _ zA).mono ?_;rintro r w1 ⟨rfl,hb1⟩;have B1:=Blk.later (Blk.newAt w 48 #[.int .u64 ep,.int .u64 bs,.slice a l.length c] rfl) hb1;have hbw1:Below w.heap.size w w1:=zA;clear hb1;go_wp2_with fail;refine (HBS.out _).mono ?_;rintro r w2 ⟨rfl,hb2⟩;have B2:=B1.later hb2;have hbw2:=Af hb2 hbw1;obtain⟨x0,x1,x2,_,_,_,l2⟩:=CI B2;have HB2:=hid B2;clear B1 hb2 B2;go_wp2_with fail;clear x0 x1 x2;go_loopw [3,14] (fun m i wr=>∃k M:Nat,k≤l.length∧i=.int .i64 k∧m=.int .i64 M∧M≤20000000+1000*k∧Hid (R=true→40+VT.length+T+(Ch bs (l.take k)).length≤M)∧Below w2.heap.size w2 wr) (fun _ i _=>l.length-(intOf i).toNat)
 case atStart=>exact ⟨0,40+(VT.length+T),At _,rfl,zT,zD,hid (fun _=>by simp[Ch];omega),Below.refl _ _⟩
 case round=>
  obtain⟨k,M,hk,rfl,rfl,hM,hMM,hb⟩:=hrel;have hbw:=Af hb hbw2;have B3:=HB2.out.later hb;obtain⟨x0,x1,x2,_,_,_,l3⟩:=CI B3;by_cases hlt:k<l.length
  ·obtain⟨b,o,hA,hbb,a1,c1,a2,c2,y0,y1,hlk,hd⟩:=Eh (lift HL.out hbw) hlt
   subst hA;have hbl:b<wr.heap.size:=BV _ _ y0;have i1:(k:Int)<(l.length:Int):=zD;have d1:decide ((k:Int)<(l.length:Int))=true:=Ad i1;have hbk:=HBK.out l[k] (AT hlt);have HHZ:=hid (fun (W:World) (hW:Below wr.heap.size wr W) (pos:Int) (hp:0≤pos∧pos≤18446744073709551615)=>Ma W pos hp l[k] a1 a2 _ c1 _ c2 (lift hlk hW) (lift hd hW) hbk);have hHN:=hid (fun pos=>LZ pos l[k]);have hst:=HHS.out k hlt;have HX:=hid (fun (h:R=true)=>(by
    obtain⟨h1,h2⟩:=HRE.out h k hlt;refine⟨?_,zD⟩;unfold IC;rw[Ai h1]:IC (bs+k) l[k]=(FT (bs+k) l[k]).length∧bs+k≤18446744073709551615))
   have HSTP:Hid (∀m,m=(FT (bs+k) l[k]).length→(Ch bs (l.take (k+1))).length=(Ch bs (l.take k)).length+m):=hid (fun m e=>by rw[hst,Al,e]);generalize l[k]=y at*;clear hst hlk hd hbk;by_cases hwr:bs+(k:Int)≤18446744073709551615
   ·have HZ2:=hid (fun (W:World) (hW:Below wr.heap.size wr W)=>HHZ.out W hW (bs+k) zD)
    have hn:=hHN.out (bs+k);generalize hN:IC (bs+(k:Int)) y=N at*;have HN:=hid hN;clear hN;go_wp2_with fail;refine (HZ2.out _ zA).mono ?_;rintro r w5 ⟨rfl,hb5⟩;have hbw5:Below w2.heap.size w2 w5:=zA;go_wp2;go_roundw
    case rel=>
     refine⟨k+1,M+N,zD,zT,zT,zD,hid (fun h=> ?_),hbw5⟩;have e1:=hMM.out h;have e2:=HSTP.out N (HX.out h).1;omega
    case measure=>simp [intOf];omega
   ·obtain⟨p',hp',hpb⟩:∃p':Int,IntKind.u64.wrap (bs+(k:Int))=p'∧0≤p'∧p'≤18446744073709551615:=⟨_,rfl,by simp only[IntKind.wrap_u64];omega⟩
    have HZ2:=hid (fun (W:World) (hW:Below wr.heap.size wr W)=>HHZ.out W hW p' hpb);have hn:=hHN.out p';generalize IC p' y=N at*;have HPP:=hid hp';have HWR:=hid hwr;clear hp' hwr;go_wp2_with fail;rw[HPP.out];refine (HZ2.out _ zA).mono ?_;rintro r w5 ⟨rfl,hb5⟩;have hbw5:Below w2.heap.size w2 w5:=zA;go_wp2;go_roundw
    case rel=>exact ⟨k+1,M+N,zD,zT,zT,zD,hid (fun h=>absurd (HX.out h).2 (by have:=HWR.out;omega)),hbw5⟩
    case measure=>simp [intOf];omega
  ·obtain rfl:k=l.length:=by omega
   have d1:decide ((l.length:Int)<(l.length:Int))=false:=Ae zD;have hfin:Hid (R=true→40+VT.length+T+(Ch bs l).length≤M):=hid (fun h=>by have:=hMM.out h;rwa [BW] at this);clear x0 x1 x2;go_wp2;go_ret;exact⟨M,rfl,zD,hfin.out,hbw⟩
def DQ(w:World)(base:Nat)(v:Value)(L:List UInt8):Prop:=w.ownsRow base 5 1 v L.length (byteCells L)
theorem Mj(l l':List UInt8):byteCells l++byteCells l'=byteCells (l++l'):=Z7
theorem DQ.app{L:List UInt8}(h:w.ownsRow base 5 1 v (L.length+D.length) (byteCells L++byteCells D)):DQ w base v (L++D):=by
 unfold DQ;rw[Al,←Mj];exact h
theorem DQ.low{b b':Nat}{L:List UInt8}(h:DQ w b v L)(hb:b'≤b):DQ w b' v L:=by
 obtain⟨h1,h2⟩:=h;refine⟨h1,?_⟩;rcases h2 with h2 | ⟨g,cap,cur,e1,e2,e3⟩
 ·exact .inl h2
 ·exact .inr ⟨g,cap,cur,e1,zD,e3⟩
theorem DQ.read{w:World}{b:Nat}{v:Value}{L:List UInt8}(h:DQ w b v L):Ag.r (fun q=>b≤q∧q<w.heap.size) w [v] L:=Cg rfl h
theorem DQ.form{b:Nat}{L:List UInt8}(h:DQ w b v L):∃a c,v=.slice a L.length c:=AX h
theorem Iy(w:World){most:Nat}(h:Bn w g base most J a c):
  Calls Tryz.prog 165 #[.pointer (some ⟨g,0,none⟩)] w fun r w'=>∃v,r=.returned (.tuple #[v,.int .i64 0])∧DQ w' w.heap.size v J∧Below w.heap.size w w':=by
 obtain⟨i0,hi,hz0,hz1,hz2⟩:=A1 Eu;have HC:=hid (Jv w h);have hB:=Cg rfl h.own;obtain⟨_,hm,_,_⟩:=AH hB;have HD:=hid (Ag.mono hB (S':=(·<w.heap.size)) fun q hq=>hq.2);have HONE:=hid (A7 J);have c1:w.cell? ⟨g,1,none⟩=some (.slice a J.length c):=h.blk.cell 1;have hg1:=h.blk.lt;have hle:=h.le;have hmo:=h.most;have hle14:=h.len;clear h hB;go_enter Tryz.func165,Tryz.ntmps165;go_wp2_with fail;refine HC.out.mono ?_;rintro r w0 ⟨rfl,rfl⟩;go_wp2_with (at_builtin;go_loud (refine AA rfl _ _ _ rfl w.heap.size 5 i0 (.int .u8 0) 1 1 AG hi hz0 hz1 hz2 rfl zO _ 0 [] rfl (D4 _ (Ap _) rfl) a J.length c (byteCells J) rfl (BH (lift HD.out zB)) HONE.out zN zD zQ ?_;intro v' w1 hown1 hgrow1 hat1;rw[Bj,A8] at hown1;obtain⟨a',c',rfl⟩:=AX hown1;have HG:=hid hgrow1;have HO:=hid hown1;clear hgrow1 hown1 hat1))
 have hb1:Below w.heap.size w w1:=Below.grown zB HG.out zQ (fun g e=>by
  have e':some w.heap.size=some g:=e;injection e' with e';omega)
 go_ret2
 exact⟨_,rfl,HO.out,hb1⟩
theorem Ki(w:World)(e:TypeId)(s:ByteArray):Below w.heap.size w (Lib.bytesWorld w e s):=by
 refine⟨?_,?_,?_,?_,fun j hj=>Lib.bytesWorld_at_old w e s j hj⟩
 ·simp[Lib.bytesWorld,World.freeze,World.alloc,World.drew,-World.alloc_eq,-World.drew_eq]
 ·simp[Lib.bytesWorld,World.freeze,World.alloc,World.drew,-World.alloc_eq,-World.drew_eq]
 ·simp[Lib.bytesWorld,World.freeze,World.alloc,World.drew,-World.alloc_eq,-World.drew_eq]
 ·rw[Lib.bytesWorld_size];omega
theorem Mg(w:World)(e:TypeId)(s:ByteArray)(hs:s.size≤1000000):
  Ag.r (fun q=>w.heap.size≤q∧q<(Lib.bytesWorld w e s).heap.size) (Lib.bytesWorld w e s) [.slice (some ⟨w.heap.size,0,none⟩) s.size (grownCap w s.size 0 e)] s.data.toList:=by
 have hn:s.size=s.data.toList.length:=zQ;refine BL (xs:=s.data.toList) (c:=grownCap w s.size 0 e) (by rw[←hn]) (hn ▸ grownCap_ge w s.size 0 e) (grownCap_le_maxLen _ _ _ _ zN) (.inr ⟨w.heap.size,0,rfl,⟨Ap _,by rw[Lib.bytesWorld_size];omega⟩,fun i x hi=>⟨[.int .u8 (x.toNat:Int)],rfl,fun j v hj=> ?_,rfl⟩⟩);have hj0:j=0:=by
  rcases j with _ | j
  ·rfl
  ·simp at hj
 subst hj0;simp at hj;subst hj;have hil:i<s.data.toList.length:=(List.getElem?_eq_some_iff.1 hi).1;rw[Bj,DG,CR,Lib.bytesWorld_cell w e s i zD,List.getD_eq_getElem?_getD,hi];rfl
theorem OJ(w:World){g base most:Nat}{J:List UInt8}{a:Option Addr}(h:Bn w g base most J a c)(s:ByteArray)(hs:s.size≤1000000)(D:List UInt8)(hD:s.data.toList=D)(hfit:J.length+D.length≤most)(hlen:J.length+D.length≤100000000000000):
  Calls Tryz.prog 260 #[.pointer (some ⟨g,0,none⟩),.string s] w fun r w'=>r=.returned (.tuple #[])∧Az w g base most (J++D) a w':=by
 have kc:=fun (W:World)=>Lib.run_convert_string_bytes (P:=Tryz.prog) W 9 22 5 s GV AG E9;have hb:=Ki w 5 s;have hr:=Mg w 5 s hs;rw[hD] at hr;have HQ:=hid (Ej (Lib.bytesWorld w 5 s) (h.later hb) D _ _ _ (Ag.mono hr fun q hq=>hq.2) hfit hlen);have HB:=hid hb;clear hb hr h hD;go_enter Tryz.func260,Tryz.ntmps260;go_wp2_with fail;refine HQ.out.mono ?_;rintro r w2 ⟨rfl,hst⟩;have HST:=hid (Az.later HB.out hst);clear hst;go_wp2;first | go_end0 | refine An (AO rfl _ _ _) rfl ?_
 exact⟨rfl,HST.out⟩
end Go.Proofs.YtfddhafbhceoaaaGreat
namespace Go.Bs
open Go.RowKit
theorem Ji:∀(k x:Nat),x<128^(k+1)→x<18446744073709551616→(AV x).length≤k+1
 | 0,x,h,_=>by rw[FE ZP];simp
 | k+1,x,h,h2=>by
  by_cases hx:x<128
  ·rw[FE hx];simp
  ·rw[JU hx h2,AL]
   have:=Ji k (x/128) (by rw[Nat.div_lt_iff_lt_mul (by decide)];rw[EL] at h;exact h) zD;omega
theorem Fw{x:Nat}(h:x<9223372036854775808):(AV x).length≤9:=Ji 8 x ZP zD
def Dw(v ep bs:Nat):List UInt8:=[84,72,79,76,UInt8.ofNat v]++(AV ep++(if v=1 then AV bs else []))
def Cw(v ep bs:Nat):List UInt8:=Dw v ep bs++Ci 4 (B8 (Dw v ep bs))
end Go.Bs
namespace Go.Proofs.YtfddhafbhceoaaaGreat
open Go.RowKit Go.Bs Go.Maps
variable{B D J J' l:List UInt8}{X base c g i n sz:Nat}{S:Nat → Prop}{a:Option Addr}{s:Rs}{e t:TypeId}{v v0 v1 v2:Value}{W w w' w1:World}
def DE(w1:World)(g most:Nat)(J:List UInt8)(w:World):Prop:=Az w1 g g most J none w
theorem DE.new{most:Nat}(h:Bn w g g most [] none 0):DE w g most [] w:=Az.refl h
theorem DE.step{most:Nat}(h:DE w1 g most J w)(k:∀a c,Bn w g g most J a c→Az w g g most J' a w'):DE w1 g most J' w':=by
 obtain⟨a,c,h1,h2,h3⟩:=h;exact Az.trans (J:=J) h2 h3 (k a c h1)
theorem DE.at{most:Nat}(h:DE w1 g most J w):∃a c,Bn w g g most J a c∧(∀{J':List UInt8} {w':World},Az w g g most J' a w'→DE w1 g most J' w')∧(∀q,q<w1.heap.size→q≠g→¬C5 g a q):=by
 obtain⟨a,c,h1,h2,h3⟩:=h;refine⟨a,c,h1,fun k=>Az.trans (J:=J) h2 h3 k,fun q hq hn e=> ?_⟩;rw[Fk] at e;rcases e with e | e
 ·exact hn e
 ·rcases h3 with h3 | ⟨q',h3,h4⟩
  ·rw[h3] at e;cases e
  ·rw[h3] at e;have:=A5 e;omega
theorem DE.later{most:Nat}(h:DE w1 g most J w)(hb:Below w.heap.size w w'):DE w1 g most J w':=by
 obtain⟨a,c,h1,k,_⟩:=h.at;exact k ⟨a,c,h1.later hb,Tch.Bz hb,.inl rfl⟩
theorem DE.tch{most:Nat}(h:DE w1 g most J w):Tch (·=g) w1 w:=by
 obtain⟨a,c,h1,h2,h3⟩:=h;refine h2.mono fun q _ e=> ?_;rw[Fk] at e;rcases e with e | e
 ·exact e
 ·cases e
theorem DE.blk{most:Nat}(h:DE w1 g most J w){b:Nat}{t:TypeId}{cs:Array Value}(hB:Blk w1 b t cs)(hn:b≠g):Blk w b t cs:=hB.tch h.tch hn
theorem DE.below{w0:World}{most:Nat}(h:DE w1 g most J w)(h0:Below w0.heap.size w0 w1)(hg:w0.heap.size≤g):Below w0.heap.size w0 w:=
 h0.trans (h.tch.Cq h0.size fun b _ e=>zD)
theorem OQ(w:World)(v:Nat)(hv:v<256):Ag.r (·<(w.alloc (.cells #[.int .u8 (v:Int)] 5)).heap.size) (w.alloc (.cells #[.int .u8 (v:Int)] 5)) [.slice (some ⟨w.heap.size,0,none⟩) 1 1] [UInt8.ofNat v]:=by
 have h:=NR w (UInt8.ofNat v);rw[←FZ hv] at h;exact h
theorem Ry:(AV 4611686018427387903).length=9:=zF
theorem KF(w:World):Calls Tryz.prog 219 #[] w fun r w'=>r=.returned (.int .i64 27)∧Below w.heap.size w w':=by
 have HS:=hid (Dv 4611686018427387903 zO w);rw[Ry] at HS;go_enter Tryz.func219,Tryz.ntmps219;go_wp2_with fail;refine HS.out.mono ?_;rintro r w1 ⟨rfl,hb1⟩;go_wp2;go_ret;exact⟨rfl,hb1⟩
theorem GN(v:Int)(w:World):Calls Tryz.prog 189 #[.int .i64 v] w fun r w'=>r=.returned (.bool (decide (v=1)))∧w=w':=by
 by_cases h:v=1
 ·have d1:(v==1)=true:=by simp[h]
  have hff:Hid (decide (v=1)=true):=hid (Ad h);clear h;go_enter Tryz.func189,Tryz.ntmps189;go_wp2;go_ret;exact⟨by rw[hff.out];first | rfl | simp[d1],rfl⟩
 ·have d1:(v==1)=false:=by simp[h]
  have hff:Hid (decide (v=1)=false):=hid (Ae h);clear h;go_enter Tryz.func189,Tryz.ntmps189;go_wp2;go_ret;exact⟨by rw[hff.out];first | rfl | simp[d1],rfl⟩
theorem JH(v:Nat)(hv:1≤v∧v≤3)(ep bs:Nat)(hep:epR (ep:Int)=true)(hbs:poR (bs:Int)=true)(w:World):
  Calls Tryz.prog 193 #[.agg #[.int .i64 v,.int .u64 ep,.int .u64 bs]] w fun r w'=>∃x,r=.returned x∧Ag.r (fun q=>w.heap.size≤q∧q<w'.heap.size) w' [x] (Dw v ep bs)∧Below w.heap.size w w':=by
 have hep':=hep;simp only[epR,Ar] at hep';have hbs':=hbs;simp only[poR,Ar] at hbs';have l1:=Fw (x:=ep) zD;have l2:=Fw (x:=bs) zD;have HB:=hid (GN (v:Int));have HN:=hid (fun W:World=>EV W 27 zD);have HT:=hid (fun (W:World) (g:Nat) (h:Bn W g g 27 [] none 0)=>OJ W h ⟨#[84,72,79,76]⟩ zO [84,72,79,76] rfl zO zO);go_enter Tryz.func193,Tryz.ntmps193;go_wp2_with fail;refine (KF _).mono ?_;rintro r w1 ⟨rfl,hb1⟩;go_wp2_with fail;refine (HN.out w1).mono ?_;rintro r w2 ⟨rfl,hp2,hb2⟩;have k2:=DE.new hp2;go_wp2_with fail;refine (HT.out w2 _ hp2).mono ?_;rintro r w3 ⟨rfl,hs3⟩;have k3:DE w2 w1.heap.size 27 [84,72,79,76] w3:=hs3;have hz:w.heap.size<w1.heap.size:=Z4;have hz2:=hb2.size;have hbw2:Below w.heap.size w w2:=Af hb2 zA;have hbox:Blk w2 w.heap.size 167 #[.int .i64 v,.int .u64 ep,.int .u64 bs]:=((Blk.new w _ _).later hb1).later hb2;have HBX:=hid hbox;have HBW:=hid hbw2;have K3:=hid k3;clear hs3 hb1 hb2 hbox hbw2 hp2 k2 k3;have q3:=K3.out.blk HBX.out zD;have c0:w3.cell? ⟨w.heap.size,0,none⟩=some (.int .i64 v):=q3.cell 0;have c1:w3.cell? ⟨w.heap.size,1,none⟩=some (.int .u64 ep):=q3.cell 1;clear q3;go_wp2_with fail;obtain⟨a3,b3,p3,k3,_⟩:=K3.out.at;have hW:Below w3.heap.size w3 (w3.alloc (.cells #[.int .u8 (v:Int)] 5)):=zB;have hlit:=OQ w3 v zD;generalize w3.alloc (.cells #[.int .u8 (v:Int)] 5)=W3 at*;refine (Ej W3 (p3.later hW) [UInt8.ofNat v] _ 1 1 hlit zQ zQ).mono ?_;rintro r w4 ⟨rfl,hs4⟩;have k4:=k3 (Az.later hW hs4);have K4:=hid k4;clear k3 hs4 hW hlit k4 p3;have q4:=K4.out.blk HBX.out zD;have c0':w4.cell? ⟨w.heap.size,0,none⟩=some (.int .i64 v):=q4.cell 0;have c1':w4.cell? ⟨w.heap.size,1,none⟩=some (.int .u64 ep):=q4.cell 1;have c2':w4.cell? ⟨w.heap.size,2,none⟩=some (.int .u64 bs):=q4.cell 2;clear q4;go_wp2_with fail;obtain⟨a4,b4,p4,k4,_⟩:=K4.out.at;refine (Kd w4 p4 ep hep zI zI).mono ?_;rintro r w5 ⟨rfl,hs5⟩;have K5:=hid (k4 hs5);clear k4 hs5 p4;have q5:=K5.out.blk HBX.out zD;have x0:w5.cell? ⟨w.heap.size,0,none⟩=some (.int .i64 v):=q5.cell 0;have x2:w5.cell? ⟨w.heap.size,2,none⟩=some (.int .u64 bs):=q5.cell 2;clear q5 c0 c1 c0' c1' c2';by_cases hv1:v=1
 ·have hdd:decide ((v:Int)=1)=true:=by simp;omega
  rw[hdd] at HB;have hff:Hid (Dw v ep bs=[84,72,79,76]++[UInt8.ofNat v]++AV ep++AV bs):=hid (by unfold Dw;rw[Ai hv1];simp);clear hdd hv1;go_wp2_with fail;refine (HB.out _).mono ?_;rintro r w6 ⟨rfl,rfl⟩;go_wp2_with fail;obtain⟨a5,b5,p5,k5,_⟩:=K5.out.at;refine (JM w5 p5 bs hbs zI zI).mono ?_;rintro r w7 ⟨rfl,hs7⟩;have K7:=hid (k5 hs7);clear k5 hs7 p5;go_wp2_with fail;obtain⟨a7,b7,p7,k7,_⟩:=K7.out.at;refine (Es w7 p7).mono ?_;rintro r w8 ⟨x,rfl,hr,hb8⟩;have hbw:=K7.out.below HBW.out zD;have HR:=hid hr;clear hr k7 p7;go_wp2;go_ret;refine⟨_,rfl,?_,Af hb8 hbw⟩;rw[hff.out];exact Ag.mono HR.out fun q hq=>⟨ZI,hq.2⟩
 ·have hdd:decide ((v:Int)=1)=false:=by simp;omega
  rw[hdd] at HB;have hff:Hid (Dw v ep bs=[84,72,79,76]++[UInt8.ofNat v]++AV ep):=hid (by unfold Dw;rw[Ah hv1];simp);clear hdd hv1;go_wp2_with fail;refine (HB.out _).mono ?_;rintro r w6 ⟨rfl,rfl⟩;go_wp2_with fail;obtain⟨a7,b7,p7,k7,_⟩:=K5.out.at;refine (Es w5 p7).mono ?_;rintro r w8 ⟨x,rfl,hr,hb8⟩;have hbw:=K5.out.below HBW.out zD;have HR:=hid hr;clear hr k7 p7;go_wp2;go_ret;refine⟨_,rfl,?_,Af hb8 hbw⟩;rw[hff.out];exact Ag.mono HR.out fun q hq=>⟨ZI,hq.2⟩
def KV(v:Int)(ep bs:Int):Bool:=decide (1≤v∧v≤3)&&(epR ep&&(poR bs&&(decide (v=1) || decide (bs=0))))
theorem NT(v ep bs:Int)(h:KV v ep bs=true)(w:World):
  Calls Tryz.prog 278 #[.agg #[.int .i64 v,.int .u64 ep,.int .u64 bs]] w fun r w'=>r=.returned (.bool true)∧Below w.heap.size w w':=by
 simp only[KV,Aq,BR,Ar] at h;obtain⟨hv,he,hp,hb⟩:=h;have HE:=hid (DW ep);rw[he] at HE;have HP:=hid (GA bs);rw[hp] at HP;have HB:=hid (GN v);have d1:decide (1≤v)=true:=Ad hv.1;have d2:decide (v≤3)=true:=Ad hv.2;by_cases hv1:v=1
 ·rw[Ad hv1] at HB
  clear he hp hb hv hv1;go_enter Tryz.func278,Tryz.ntmps278;go_wp2_with fail;refine (HE.out _).mono ?_;rintro r w1 ⟨rfl,rfl⟩;go_wp2_with fail;refine (HP.out _).mono ?_;rintro r w1 ⟨rfl,rfl⟩;go_wp2_with fail;refine (HB.out _).mono ?_;rintro r w1 ⟨rfl,rfl⟩;go_wp2;go_ret;exact⟨rfl,zB⟩
 ·rw[Ae hv1] at HB
  obtain rfl:bs=0:=zD;clear he hp hb hv hv1;go_enter Tryz.func278,Tryz.ntmps278;go_wp2_with fail;refine (HE.out _).mono ?_;rintro r w1 ⟨rfl,rfl⟩;go_wp2_with fail;refine (HP.out _).mono ?_;rintro r w1 ⟨rfl,rfl⟩;go_wp2_with fail;refine (HB.out _).mono ?_;rintro r w1 ⟨rfl,rfl⟩;go_wp2;go_ret;exact⟨rfl,zB⟩
end Go.Proofs.YtfddhafbhceoaaaGreat
namespace Go.Bs
open Go.RowKit
theorem M7{v ep bs:Nat}(h1:(AV ep).length≤9)(h2:(AV bs).length≤9):(Dw v ep bs).length≤23:=by
 unfold Dw;simp only[Al,AL,By];split<;>(try simp only[By])<;>omega
end Go.Bs
namespace Go.Proofs.YtfddhafbhceoaaaGreat
open Go.RowKit Go.Bs Go.Maps
variable{B D J J' l:List UInt8}{X base c g i n sz:Nat}{S:Nat → Prop}{a:Option Addr}{s:Rs}{e t:TypeId}{v v0 v1 v2:Value}{W w w' w1:World}
def Ck(p:List UInt8):List UInt8:=F0 p++Ci 4 (B8 p)
theorem Eo(p:List UInt8):(Ck p).length=(F0 p).length+4:=by simp[Ck,Dz]
theorem Qy(w:World){g base most:Nat}{J:List UInt8}{a:Option Addr}(h:Bn w g base most J a c)(v ep bs:Nat)(hR:KV (v:Int) ep bs=true)(hfit:J.length+(Cw v ep bs).length≤most)(hlen:J.length+(Cw v ep bs).length≤100000000000000):
  Calls Tryz.prog 220 #[.pointer (some ⟨g,0,none⟩),.agg #[.int .i64 v,.int .u64 ep,.int .u64 bs]] w fun r w'=>r=.returned (.tuple #[])∧Az w g base most (J++Cw v ep bs) a w':=by
 have HR:=hid (NT v ep bs hR);have hR':=hR;simp only[KV,Aq,BR,Ar] at hR';obtain⟨hv,he,hp,_⟩:=hR';have HP:=hid (JH v zD ep bs he hp);have hb:Hid (Cw v ep bs=Dw v ep bs++Ci 4 (B8 (Dw v ep bs))):=hid rfl;have HPN:=hid h;have hl:(Cw v ep bs).length=(Dw v ep bs).length+4:=by rw[hb.out];simp[Dz]
 rw[hl] at hfit hlen;have HL:=FA (Dw v ep bs);have HC:=hid (fun (W:World) (a:Option Addr) (n c:Nat) h=>JO (Dw v ep bs) a n c W h);generalize Cw v ep bs=K at*;generalize B8 (Dw v ep bs)=s at*;generalize Dw v ep bs=D at*;clear h hR he hp hv hl;go_enter Tryz.func220,Tryz.ntmps220;go_wp2_with fail;refine (HR.out _).mono ?_;rintro r w1 ⟨rfl,hb1⟩;have hbx:Blk w1 w.heap.size 167 #[.int .i64 v,.int .u64 ep,.int .u64 bs]:=(Blk.new w _ _).later hb1;have hbw1:Below w.heap.size w w1:=zB;have c0:w1.cell? ⟨w.heap.size,0,none⟩=some (.int .i64 v):=hbx.cell 0;have c1:w1.cell? ⟨w.heap.size,1,none⟩=some (.int .u64 ep):=hbx.cell 1;have c2:w1.cell? ⟨w.heap.size,2,none⟩=some (.int .u64 bs):=hbx.cell 2;clear hbx;go_wp2_with fail;refine (HP.out _).mono ?_;rintro r w2 ⟨x,rfl,hr,hb2⟩;obtain⟨a2,c2,hv2,hr2,_⟩:=AJ hr;simp only[As,AF] at hv2;subst hv2;have hbw2:=Af hb2 hbw1;have hP2:=HPN.out.later hbw2;have HD:=hid hr2;have hz2:=hbw1.size;clear hr hr2;go_wp2_with fail;refine (Ej w2 hP2 D a2 _ c2 (Ag.mono HD.out fun q hq=>hq.2) zD zD).mono ?_;rintro r w3 ⟨rfl,a3,c3,p3,t3,h3⟩;have hs3:=t3.size;have hno:∀q,w.heap.size≤q→¬C5 g a q:=fun q hq hf=>by have:=(HPN.out.Bo hf).2;omega
 have HD3:=hid (Ag.keep HD.out fun q hq=>t3.block q hq.2 (hno q zD));have HST:=hid (fun (J':List UInt8) (W:World) (k:Az w3 g base most J' a3 W)=>Az.later (J':=J') hbw2 (Az.trans (J:=J++D) t3 h3 k));have P3:=hid p3;clear p3 t3 h3 hno hP2;go_wp2_with fail;refine (HC.out w3 a2 _ c2 (Ag.mono HD3.out fun q hq=>by have:=hq.2;omega)).mono ?_;rintro r w4 ⟨rfl,hb4⟩;have e1:(s:Int)%18446744073709551616=s:=zD;go_wp2_with fail;refine (IV w4 (P3.out.later hb4) s zD 4 zD zI zI).mono ?_;rintro r w5 ⟨rfl,hs5⟩;have hst:=HST.out _ _ (Az.later hb4 hs5);rw[AB,←hb.out] at hst;have HST2:=hid hst;clear hst hs5;go_wp2;first | go_end0 | refine An (AO rfl _ _ _) rfl ?_
 exact⟨rfl,HST2.out⟩
theorem JI(w:World)(v ep bs:Nat)(hR:KV (v:Int) ep bs=true):
  Calls Tryz.prog 145 #[.agg #[.int .i64 v,.int .u64 ep,.int .u64 bs]] w fun r w'=>∃x,r=.returned (.tuple #[x,.int .i64 0])∧DQ w' w.heap.size x (Cw v ep bs)∧Below w.heap.size w w':=by
 have hR':=hR;simp only[KV,epR,poR,Aq,BR,Ar] at hR';obtain⟨hv,he,hp,_⟩:=hR';have hl:(Cw v ep bs).length≤27:=by
  have:=M7 (v:=v) (Fw (x:=ep) zD) (Fw (x:=bs) zD);simp only[Cw,Al,Dz];omega
 have HN:=hid (fun W:World=>EV W 27 zD);have HP:=hid (fun (W:World) (g:Nat) (h:Bn W g g 27 [] none 0)=>Qy W h v ep bs hR zBb zI);generalize Cw v ep bs=K at*;clear hR hv he hp;go_enter Tryz.func145,Tryz.ntmps145;go_wp2_with fail;refine (KF _).mono ?_;rintro r w1 ⟨rfl,hb1⟩;go_wp2_with fail;refine (HN.out w1).mono ?_;rintro r w2 ⟨rfl,hp2,hb2⟩;have hbox:=((Blk.new w 167 #[.int .i64 v,.int .u64 ep,.int .u64 bs]).later hb1).later hb2;have c0:w2.cell? ⟨w.heap.size,0,none⟩=some (.int .i64 v):=hbox.cell 0;have c1:w2.cell? ⟨w.heap.size,1,none⟩=some (.int .u64 ep):=hbox.cell 1;have c2:w2.cell? ⟨w.heap.size,2,none⟩=some (.int .u64 bs):=hbox.cell 2;have hbw2:Below w.heap.size w w2:=Af hb2 zA;have hz1:w.heap.size<w1.heap.size:=Z4;have HQ:=hid (HP.out w2 _ hp2);clear hbox hp2;go_wp2_with fail;refine HQ.out.mono ?_;rintro r w3 ⟨rfl,hs3⟩;have K3:Hid (DE w2 w1.heap.size 27 K w3):=hid hs3;clear hs3 HQ;go_wp2_with fail;obtain⟨a7,b7,p7,k7,_⟩:=K3.out.at;refine (Iy w3 p7).mono ?_;rintro r w8 ⟨x,rfl,hr,hb8⟩;have hbw:=K3.out.below hbw2 zD;have HR:=hid hr;clear hr k7 p7;go_wp2;go_ret2
 exact⟨_,rfl,HR.out.low hbw.size,Af hb8 hbw⟩
theorem QC(n:Nat)(hn:n≤100000000000000)(w:World):
  Calls Tryz.prog 113 #[.int .i64 n] w fun r w'=>r=.returned (.int .i64 ((AV n).length+n+4:Nat))∧Below w.heap.size w w':=by
 have HS:=hid (Im n hn w);have hl:=A3 n;generalize (AV n).length=k at*;go_enter Tryz.func113,Tryz.ntmps113;go_wp2_with fail;refine HS.out.mono ?_;rintro r w1 ⟨rfl,hb1⟩;go_wp2;go_ret;exact⟨zAf,hb1⟩
theorem Si(w:World){g base most:Nat}{J:List UInt8}{a:Option Addr}(h:Bn w g base most J a c)(D:List UInt8)(ad:Option Addr)(nd cd:Nat)
 (hD:Ag.r (fun q=>q<w.heap.size∧¬C5 g a q) w [.slice ad nd cd] D) (hm:D.length≤2097152) (hfit:J.length+(Ck D).length≤most) (hlen:J.length+(Ck D).length≤100000000000000):
  Calls Tryz.prog 166 #[.pointer (some ⟨g,0,none⟩),.slice ad nd cd] w fun r w'=>r=.returned (.tuple #[])∧Az w g base most (J++Ck D) a w':=by
 obtain⟨rfl,_,_,_⟩:=AH hD;rw[Eo] at hfit hlen;have d1:decide ((2097152:Int)<(D.length:Int))=false:=Ae zD;have HB:=hid (Pt w h D ad _ cd hD zD zD);have HC:=hid (fun (W:World) h=>JO D ad D.length cd W h);have HL:=FA D;have hb:Hid (Ck D=F0 D++Ci 4 (B8 D)):=hid rfl;have HD:=hid hD;generalize Ck D=K at*;generalize B8 D=s at*;generalize F0 D=E at*;clear h hD;go_enter Tryz.func166,Tryz.ntmps166;go_wp2_with fail;refine HB.out.mono ?_;rintro r w3 ⟨rfl,a3,c3,p3,t3,h3⟩;have hs3:=t3.size;have HD3:=hid (Ag.keep HD.out fun q hq=>t3.block q hq.1 hq.2);have HST:=hid (fun (J':List UInt8) (W:World) (k:Az w3 g base most J' a3 W)=>Az.trans (J:=J++E) t3 h3 k);have P3:=hid p3;clear p3 t3 h3;go_wp2_with fail;refine (HC.out w3 (Ag.mono HD3.out fun q hq=>ZF)).mono ?_;rintro r w4 ⟨rfl,hb4⟩;have e1:(s:Int)%18446744073709551616=s:=zD;go_wp2_with fail;refine (IV w4 (P3.out.later hb4) s zD 4 zD zI zI).mono ?_;rintro r w5 ⟨rfl,hs5⟩;have hst:=HST.out _ _ (Az.later hb4 hs5);rw[AB,←hb.out] at hst;have HST2:=hid hst;clear hst hs5;go_wp2;first | go_end0 | refine An (AO rfl _ _ _) rfl ?_
 exact⟨rfl,HST2.out⟩
theorem KG(w:World)(D:List UInt8)(ad:Option Addr)(nd cd:Nat)(hD:Ag.r (·<w.heap.size) w [.slice ad nd cd] D)(hm:D.length≤2097152):
  Calls Tryz.prog 100 #[.slice ad nd cd] w fun r w'=>∃x,r=.returned (.tuple #[x,.int .i64 0])∧DQ w' w.heap.size x (Ck D)∧Below w.heap.size w w':=by
 obtain⟨rfl,_,_,_⟩:=AH hD;have HS:=hid (QC D.length zD w);have hvl:=A3 D.length;have hl:(Ck D).length=(AV D.length).length+D.length+4:=by rw[Eo,Ez]
 have HN:=hid (fun W:World=>EV W ((AV D.length).length+D.length+4) zD);have HP:=hid (fun (W:World) (g:Nat) (h:Bn W g g ((AV D.length).length+D.length+4) [] none 0) (h1:Ag.r (fun q=>q<W.heap.size∧¬C5 g none q) W [.slice ad D.length cd] D)=>Si W h D ad _ cd h1 hm zI zI);have HD:=hid hD;generalize Ck D=K at*;generalize (AV D.length).length+D.length+4=M at*;clear hD;go_enter Tryz.func100,Tryz.ntmps100;go_wp2_with fail;refine HS.out.mono ?_;rintro r w1 ⟨rfl,hb1⟩;go_wp2_with fail;refine (HN.out w1).mono ?_;rintro r w2 ⟨rfl,hp2,hb2⟩;have hbw2:Below w.heap.size w w2:=Af hb2 hb1;have hz1:=hb1.size;have hz2:=hb2.size;have HQ:=hid (HP.out w2 _ hp2 (Ag.mono (Ag.keep HD.out fun q hq=>hbw2.block q hq) fun q hq=>⟨zD,by rw[Fk];rintro (e | e);omega;cases e⟩));clear hp2;go_wp2_with fail;refine HQ.out.mono ?_;rintro r w3 ⟨rfl,hs3⟩;have K3:Hid (DE w2 w1.heap.size M K w3):=hid hs3;clear hs3 HQ;go_wp2_with fail;obtain⟨a7,b7,p7,k7,_⟩:=K3.out.at;refine (Iy w3 p7).mono ?_;rintro r w8 ⟨x,rfl,hr,hb8⟩;have hbw:=K3.out.below hbw2 zD;have HR:=hid hr;clear hr k7 p7;go_wp2;go_ret2
 exact⟨_,rfl,HR.out.low hbw.size,Af hb8 hbw⟩
def DC:List UInt8→Nat
 | []=>0
 | b::l=>b.toNat+256*DC l
theorem Lb:∀l:List UInt8,DC l<256^l.length
 | []=>by decide
 | b::l=>by
  have h1:=Lb l;have h2:=b.toNat_lt;simp only[DC,AL,EL];omega
theorem Nc:∀(l:List UInt8) (b:UInt8),DC (l++[b])=DC l+b.toNat*256^l.length
 | [],b=>by simp[DC]
 | x::l,b=>by
  simp only[K0,DC,AL,Nc l b,EL,Nat.mul_add,Nat.add_assoc];congr 1
  congr 1
  rw[Nat.mul_comm 256,Nat.mul_assoc]
theorem Hq:∀(l:List UInt8),Ci l.length (DC l)=l
 | []=>rfl
 | b::l=>by
  have h1:=b.toNat_lt;have e1:(b.toNat+256*DC l)%256=b.toNat:=zD;have e2:(b.toNat+256*DC l)/256=DC l:=zD;simp only[AL,Ci,DC,e1,e2,Hq l];rw[UInt8.ofNat_toNat]
theorem T3(hX:X<256^i)(hi:i≤7)(hc:c<256):bits .or .u64 (X:Int) (IntKind.u64.wrap ((c:Int)*2^(8*i)))=((X+c*256^i:Nat):Int):=by
 have h1:(256:Nat)^i=2^(8*i):=by rw[Nat.pow_mul]
 have h2:(256:Nat)^i≤256^7:=DF zO hi;have h3:(256:Nat)^7=72057594037927936:=zO;have h4:c*256^i≤255*256^i:=BG _ zD;have e:(c:Int)*2^(8*i)=((c*256^i:Nat):Int):=by
  rw[h1];simp
 rw[e,IntKind.wrap_u64,Int.emod_eq_of_lt zD zD,bits_or_u64_nat _ _ zD zD];rw[h1] at hX ⊢;rw[Nat.or_comm,←Nat.shiftLeft_eq,←Nat.shiftLeft_add_eq_or_of_lt hX,Nat.add_comm]
theorem Hy(w:World){g:Nat}{B:List UInt8}{a:Option Addr}{s:Rs}(h:AN w g B a s)(hB:B.length≤1000000000)(n:Nat)(hn:n≤8):
  Calls Tryz.prog 191 #[.pointer (some ⟨g,0,none⟩),.int .i64 (n:Int)] w fun r w'=>r=.returned (.int .u64 (DC (s.take B n).2:Nat))∧Ay w g B a (s.take B n).1 w':=by
 have HT:=hid (Ih w h (n:Int) zD zD);have hlen:(s.take B n).2.length≤n:=by
  unfold Rs.take;split
  ·simp;omega
  ·simp
 have hlt:=h.blk.lt;generalize s.take B (n:Int)=T at*;obtain⟨s1,L⟩:=T;dsimp only at*;have n0:(0:Int)≤(n:Int):=zD;have n8:(n:Int)≤8:=zD;clear h;go_enter Tryz.func191,Tryz.ntmps191;go_wp2_with fail;refine HT.out.mono ?_;rintro r w1 ⟨v,rfl,hv,hst⟩;obtain⟨a1,c1,hfv,hv2,_⟩:=AJ hv;simp only[As,AF] at hfv;subst hfv;have HV:=hid hv2;have HST:=hid hst;clear hv hv2 hst;go_wp2_with fail;go_loopw [5,14] (fun x i wr=>∃j:Nat,j≤L.length∧i=.int .i64 j∧x=.int .u64 ((DC (L.take j):Nat):Int)∧w1=wr) (fun _ i _=>L.length-(intOf i).toNat)
 case atStart=>exact ⟨0,At _,rfl,rfl,rfl⟩
 case round=>
  obtain⟨j,hj,rfl,rfl,rfl⟩:=hrel;by_cases hlt2:j<L.length
  ·have d1:decide ((j:Int)<(L.length:Int))=true:=Ad zD
   have i1:(j:Int)<(L.length:Int):=zD;obtain⟨b,o,rfl,_,hc⟩:=BJ HV.out hlt2;have hff:=hid (show DC (L.take (j+1))=DC (L.take j)+L[j].toNat*256^j by
    rw[AR hlt2,Nc];congr 3
    simp;omega)
   have hX:DC (L.take j)<256^j:=by
    have:=Lb (L.take j);rwa [List.length_take,Nat.min_eq_left hj] at this
   have hb:=L[j].toNat_lt;have E:=hid (T3 (c:=L[j].toNat) hX zD zD);have hXb:DC (L.take j)<18446744073709551616:=Ao hX (A6 (DF zO (show j≤7 by omega)) zO);generalize L[j].toNat=y at*;generalize DC (L.take j)=X at*;clear hX;have m0:(0:Int)≤8*(j:Int):=zD;have m1:8*(j:Int)≤64:=zD;go_wp2_with fail;go_roundw
   case rel=>exact ⟨j+1,zD,zT,by rw[E.out,hff.out],by trivial⟩
   case measure=>(simp[intOf];try omega)
  ·obtain rfl:j=L.length:=by omega
   have d1:decide ((L.length:Int)<(L.length:Int))=false:=Ae zD;rw[BW];go_wp2_with fail;go_ret;exact⟨rfl,HST.out⟩
theorem O8(m:Int)(w:World):Calls Tryz.prog 111 #[.int .i64 m] w fun r w'=>r=.returned (.int .i64 (min m 2097152))∧w=w':=by
 by_cases h:m≤2097152
 ·have e:min m 2097152=m:=by omega
  rw[e];clear e;go_enter Tryz.func111,Tryz.ntmps111;go_wp2_with fail;go_ret;exact⟨rfl,rfl⟩
 ·have e:min m 2097152=2097152:=by omega
  have h':2097152<m:=zD;rw[e];clear e;go_enter Tryz.func111,Tryz.ntmps111;go_wp2_with fail;go_ret;exact⟨rfl,rfl⟩
theorem MC{w:World}{g:Nat}{B:List UInt8}{a:Option Addr}{s:Rs}(h:AN w g B a s)(D:List UInt8)(ad:Option Addr)(cd:Nat)(hD:Ag.r (·<w.heap.size) w [.slice ad D.length cd] D)(v:Nat)(p:Int):
  Calls Tryz.prog 306 #[.slice ad D.length cd,.int .u64 (v:Int),.func (Fn.func 124) #[.pointer (some ⟨g,0,none⟩)] #[],.int .i64 p] w fun r w'=>r=.returned (.tuple #[])∧Ay w g B a (if B8 D=v then s else s.fail 6 p) w':=by
 have HC:=hid (JO D ad _ cd w hD);have hlt:=FA D;have HH:=hid h;clear h hD;generalize B8 D=q at*;by_cases hq:q=v
 ·rw[Ai hq]
  subst hq;have d1:((q:Int) !=(q:Int))=false:=zQ;go_enter Tryz.func306,Tryz.ntmps306;go_wp2_with fail;refine HC.out.mono ?_;rintro r w1 ⟨rfl,hb⟩;have HST:=hid (Ay.later HH.out hb);clear hb;go_wp2_with fail;first | go_end0 | refine An (AO rfl _ _ _) rfl ?_
  exact⟨rfl,HST.out⟩
 ·rw[Ah hq]
  have d1:((q:Int) !=(v:Int))=true:=zI;clear hq;go_enter Tryz.func306,Tryz.ntmps306;go_wp2_with fail;refine HC.out.mono ?_;rintro r w1 ⟨rfl,hb⟩;have HST:=hid (Ay.later HH.out hb);have HF:=hid (Bd w1 HST.out.1 6 p zD);clear hb;go_wp2_with fail;refine HF.out.mono ?_;rintro r w2 ⟨rfl,hst⟩;have HS2:=hid (Ay.trans HST.out.2 hst);clear hst;go_wp2_with fail;first | go_end0 | refine An (AO rfl _ _ _) rfl ?_
  exact⟨rfl,HS2.out⟩
def Rs.frame(B:List UInt8)(s:Rs)(m:Int):Rs × List UInt8:=
 let b:=s.Dk B (min m 2097152)
 let f:=b.1.take B 4
 let r:=if B8 b.2=DC f.2 then f.1 else f.1.fail 6 b.1.p
 (r,if r.k=0 then b.2 else [])
theorem QD(w:World){g:Nat}{B:List UInt8}{a:Option Addr}{s:Rs}(h:AN w g B a s)(hB:B.length≤1000000000)(m:Int)(hm: -9223372036854775808≤m∧m≤9223372036854775807):
  Calls Tryz.prog 246 #[.pointer (some ⟨g,0,none⟩),.int .i64 m] w fun r w'=>∃v,r=.returned v∧Ag.r (fun q=>w.heap.size≤q∧q<w'.heap.size) w' [v] (s.frame B m).2∧Ay w g B a (s.frame B m).1 w':=by
 have hlt:=h.blk.lt;have HBD:=hid (O8 m w);have HBL:=hid (Nq w h zD (min m 2097152) zD);unfold Rs.frame;dsimp only;generalize s.Dk B (min m 2097152)=P at*;obtain⟨s1,D⟩:=P;dsimp only at*;have HFX:=hid (fun (W:World) (hW:AN W g B a s1)=>(by have:=Hy W hW hB 4 zD;exact this:Calls Tryz.prog 191 #[.pointer (some ⟨g,0,none⟩),.int .i64 4] W fun r w'=>r=.returned (.int .u64 ((DC (s1.take B 4).2:Nat):Int))∧Ay W g B a (s1.take B 4).1 w'));have HAT:=hid (fun (W:World) (hW:AN W g B a s1)=>BI W hW);generalize s1.take B 4=T at*;obtain⟨s2,F⟩:=T;dsimp only at*;generalize DC F=v at*;have HCK:=hid (fun (W:World) (hW:AN W g B a s2) (ad:Option Addr) (cd:Nat) (hD:Ag.r (·<W.heap.size) W [.slice ad D.length cd] D)=>MC hW D ad cd hD v (s1.p:Int));generalize (if B8 D=v then s2 else s2.fail 6 (s1.p:Int))=s3 at*;generalize hRS:(if s3.k=0 then D else [])=RES;have HRS:=hid hRS;generalize min m 2097152=mm at*;clear h hRS;by_cases hk:s3.k=0
 ·have HG:=hid (fun (V:World) (hV:AN V g B a s3)=>(by have:=AK V hV;rw[Ad hk] at this;exact this:Calls Tryz.prog 112 #[.pointer (some ⟨g,0,none⟩)] V fun r w'=>r=.returned (.bool true)∧Below V.heap.size V w'))
  have HR2:Hid (RES=D):=hid (by rw[←HRS.out];exact Ai hk);clear hk;go_enter Tryz.func246,Tryz.ntmps246;go_wp2_with fail;refine HBD.out.mono ?_;rintro r w0 ⟨rfl,rfl⟩;go_wp2_with fail;refine HBL.out.mono ?_;rintro r w1 ⟨v1,rfl,hv1,hst1⟩;obtain⟨ad,cd,hfv,hv2,_⟩:=AJ hv1;simp only[As,AF] at hfv;subst hfv;have HV1:=hid hv2;have HS1:=hid hst1;have hz1:=hst1.2.size;clear hv1 hv2 hst1;go_wp2_with fail;refine (HAT.out w1 HS1.out.1).mono ?_;rintro r w1' ⟨rfl,rfl⟩;go_wp2_with fail;refine (HFX.out w1 HS1.out.1).mono ?_;rintro r w3 ⟨rfl,hst3⟩;have HV3:=hid (Ag.mono (Ag.keep HV1.out (w':=w3) fun q hq=>hst3.2.block q hq.2 ZF) (S':=fun q=>w.heap.size≤q∧q<w3.heap.size) fun q hq=>⟨hq.1,Ao hq.2 hst3.2.size⟩);have HS3:=hid (Ay.trans HS1.out.2 hst3);clear hst3;go_wp2_with fail;refine (HCK.out w3 HS3.out.1 ad cd (Ag.mono HV3.out fun q hq=>hq.2)).mono ?_;rintro r w4 ⟨rfl,hst4⟩;have HV4:=hid (Ag.mono (Ag.keep HV3.out (w':=w4) fun q hq=>hst4.2.block q hq.2 ZF) (S':=fun q=>w.heap.size≤q∧q<w4.heap.size) fun q hq=>⟨hq.1,Ao hq.2 hst4.2.size⟩);have HS4:=hid (Ay.trans HS3.out.2 hst4);clear hst4;go_wp2_with fail;refine (HG.out w4 HS4.out.1).mono ?_;rintro r w5 ⟨rfl,hb5⟩;have HSE:=hid (HS4.out.then hb5);have HVF:=hid (show Ag.r (fun q=>w.heap.size≤q∧q<w5.heap.size) w5 [.slice ad D.length cd] D from Ag.mono (Ag.keep HV4.out fun q hq=>hb5.block q hq.2) fun q hq=>⟨hq.1,Ao hq.2 hb5.size⟩);clear hb5;go_wp2_with fail;go_ret;rw[HR2.out];exact⟨_,rfl,HVF.out,HSE.out⟩
 ·have HG:=hid (fun (V:World) (hV:AN V g B a s3)=>(by have:=AK V hV;rw[Ae hk] at this;exact this:Calls Tryz.prog 112 #[.pointer (some ⟨g,0,none⟩)] V fun r w'=>r=.returned (.bool false)∧Below V.heap.size V w'))
  have HR2:Hid (RES=[]):=hid (by rw[←HRS.out];exact Ah hk);clear hk;go_enter Tryz.func246,Tryz.ntmps246;go_wp2_with fail;refine HBD.out.mono ?_;rintro r w0 ⟨rfl,rfl⟩;go_wp2_with fail;refine HBL.out.mono ?_;rintro r w1 ⟨v1,rfl,hv1,hst1⟩;obtain⟨ad,cd,hfv,hv2,_⟩:=AJ hv1;simp only[As,AF] at hfv;subst hfv;have HV1:=hid hv2;have HS1:=hid hst1;have hz1:=hst1.2.size;clear hv1 hv2 hst1;go_wp2_with fail;refine (HAT.out w1 HS1.out.1).mono ?_;rintro r w1' ⟨rfl,rfl⟩;go_wp2_with fail;refine (HFX.out w1 HS1.out.1).mono ?_;rintro r w3 ⟨rfl,hst3⟩;have HV3:=hid (Ag.mono (Ag.keep HV1.out (w':=w3) fun q hq=>hst3.2.block q hq.2 ZF) (S':=fun q=>w.heap.size≤q∧q<w3.heap.size) fun q hq=>⟨hq.1,Ao hq.2 hst3.2.size⟩);have HS3:=hid (Ay.trans HS1.out.2 hst3);clear hst3;go_wp2_with fail;refine (HCK.out w3 HS3.out.1 ad cd (Ag.mono HV3.out fun q hq=>hq.2)).mono ?_;rintro r w4 ⟨rfl,hst4⟩;have HV4:=hid (Ag.mono (Ag.keep HV3.out (w':=w4) fun q hq=>hst4.2.block q hq.2 ZF) (S':=fun q=>w.heap.size≤q∧q<w4.heap.size) fun q hq=>⟨hq.1,Ao hq.2 hst4.2.size⟩);have HS4:=hid (Ay.trans HS3.out.2 hst4);clear hst4;go_wp2_with fail;refine (HG.out w4 HS4.out.1).mono ?_;rintro r w5 ⟨rfl,hb5⟩;have HSE:=hid (HS4.out.then hb5);clear hb5;go_wp2_with fail;go_ret;rw[HR2.out];exact⟨_,rfl,BL (xs:=[]) rfl (Ap _) (At _) (.inl rfl),HSE.out⟩
theorem Rs.JA(h:s.ok B.length)(most:Int):(s.loose B most).1.ok B.length:=by
 have hb:=Rs.Fp (B:=B) (Rs.Dp h (m:=min most 1048576));unfold Rs.loose;split
 ·split
  ·split
   ·exact Rs.EU hb _
   ·exact Rs.EU hb _
  ·split
   ·split
    ·exact Rs.SN hb _
    ·exact Rs.SN hb _
   ·exact Rs.Ce hb zD
 ·exact hb
def Rs.Ey(B:List UInt8):Nat→Rs→Int→List Int→Rs × List Int
 | 0,s,_,out=>(s,out)
 | n+1,s,below,out=>
  if (s.num B).1.k=0 then
   (if below≤((s.num B).2:Int) then ((s.num B).1.fail 13 s.p,[]) else Rs.Ey B n (s.num B).1 (below-(s.num B).2-1) (out++[below-(s.num B).2-1]))
  else ((s.num B).1,[])
def Rs.delta(B:List UInt8)(s:Rs)(below:Int)(most:Int):Rs × List Int:=Rs.Ey B (s.int B most).2 (s.int B most).1 below []
def Rs.stream(B:List UInt8)(s:Rs)(prev:Option Int):Rs × Int:=
 match prev with
 | none=>((s.num B).1,((s.num B).2:Int))
 | some q=>(if 18446744073709551615-q≤((s.num B).2:Int) then (s.num B).1.fail 13 s.p else (s.num B).1,((s.num B).2:Int)+q+1)
def Rs.Dg(B:List UInt8)(pos:Int):Nat→Rs→Option Int→List Ba→Rs × List Ba
 | 0,s,_,out=>(s,out)
 | n+1,s,prev,out=>
  if ((s.stream B prev).1.delta B pos 4).1.k=0 then Rs.Dg B pos n ((s.stream B prev).1.delta B pos 4).1 (some (s.stream B prev).2) (out++[⟨(s.stream B prev).2,((s.stream B prev).1.delta B pos 4).2⟩])
  else (((s.stream B prev).1.delta B pos 4).1,[])
def Rs.links(B:List UInt8)(s:Rs)(pos:Int):Rs × List Ba:=Rs.Dg B pos (s.int B 16).2 (s.int B 16).1 none []
def Rs.Cm(B:List UInt8)(s:Rs)(pos most:Int):Rs × List Ba × Nat:=
 if ((s.links B pos).1.int B most).1.k=0 then (((s.links B pos).1.int B most).1,(s.links B pos).2,((s.links B pos).1.int B most).2) else (((s.links B pos).1.int B most).1,[],0)
def Rs.Dl(B:List UInt8):Nat→Rs→Int→Int→List (List Ba × Nat)→Rs × List (List Ba × Nat)
 | 0,s,_,_,out=>(s,out)
 | n+1,s,pos,left,out=>
  if (s.Cm B pos left).1.k=0 then Rs.Dl B n (s.Cm B pos left).1 (pos+1) (left-(s.Cm B pos left).2.2) (out++[(s.Cm B pos left).2]) else ((s.Cm B pos left).1,[])
def C7(l:List (List Ba × Nat)):Nat:=(l.map Prod.snd).sum
def E5:List (List Ba × Nat)→List UInt8→List Entry
 | [],_=>[]
 | (l,n)::r,D=>⟨l,D.take n⟩::E5 r (D.drop n)
def Rs.ep(B:List UInt8)(s:Rs):Rs × Nat:=if (s.num B).1.k=0 then (if epR ((s.num B).2:Int)=true then s.num B else ((s.num B).1.fail 3 s.p,0)) else ((s.num B).1,0)
def Rs.po(B:List UInt8)(s:Rs):Rs × Nat:=if (s.num B).1.k=0 then (if poR ((s.num B).2:Int)=true then s.num B else ((s.num B).1.fail 3 s.p,0)) else ((s.num B).1,0)
def Rs.Bm(B:List UInt8)(s:Rs):Rs × Nat × Nat × Nat:=
 ((if Dc (((s.ep B).1.po B).2:Int) (((s.ep B).1.po B).1.int B 16).2=true then (((s.ep B).1.po B).1.int B 16).1 else (((s.ep B).1.po B).1.int B 16).1.fail 3 ((s.ep B).1.po B).1.p),(s.ep B).2,((s.ep B).1.po B).2,(((s.ep B).1.po B).1.int B 16).2)
def Rs.Mq(blk:Rs→Rs × List UInt8 × Bool)(h:Rs × List (List Ba × Nat)):Rs × List Entry × Bool:=
 let p:=blk h.1
 let u:Rs:=if C7 h.2=p.2.1.length then p.1 else p.1.fail 3 h.1.p
 (u,E5 h.2 p.2.1,p.2.2)
def EG:Batch:=⟨0,0,[]⟩
def Rs.batch(B:List UInt8)(blk:Rs→Rs × List UInt8 × Bool)(s:Rs):Rs × Batch × Bool:=
 let f:=s.Bm B
 if f.1.k=0 then
  let u:=Rs.Mq blk (Rs.Dl B f.2.2.2 f.1 (f.2.2.1:Int) 1048576 [])
  if u.1.k=0 then (u.1,⟨(f.2.1:Int),(f.2.2.1:Int),u.2.1⟩,u.2.2) else (u.1,EG,false)
 else (f.1,EG,false)
def C8(B:List UInt8)(s:Rs):Rs × List UInt8 × Bool:=((Rs.strict (s.loose B 1048576)).1,(Rs.strict (s.loose B 1048576)).2,true)
def DD(B:List UInt8)(s:Rs):Rs × List UInt8 × Bool:=s.loose B 1048576
end Go.Proofs.YtfddhafbhceoaaaGreat
