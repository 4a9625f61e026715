/- Mini: Needed by feedNone_walk, part 6: texts put together by shake.py; no condition. -/
import Derived.Test.YtfddhafbhceoaaaGreatWF2
import Derived.Test.YtfddhafbhceoaaaGreatWF5
import Derived.Test.YtfddhafbhceoaaaGreatWF1
import Derived.Laws.MakeOwn
import Derived.Test.YtfddhafbhceoaaaGreatWF4
import Derived.Lib.ConvBytes
import Derived.Laws.AppendOwn
import Derived.Test.YtfddhafbhceoaaaGreatWF3
set_option linter.unusedVariables false
set_option linter.unusedSimpArgs false
set_option maxRecDepth 100000
set_option maxHeartbeats 6400000
namespace Go.Bs
theorem zBy{p:Prop}(h:p:=by unfold DP; rw [Al, Ki]):p:=h
theorem zBw{p:Prop}(h:p:=by simp [results, Tryz.results176, go_sem, y0, y1, l1]):p:=h
theorem zBp{p:Prop}(h:p:=by have := HFK.out; simp only [Al]; omega):p:=h
theorem zBo{p:Prop}(h:p:=by have := HLT.out _ hf; omega):p:=h
theorem zAz{p:Prop}(h:p:=by have := hbk x hx; omega):p:=h
theorem Z2{p:Prop}(h:p:=by rw [IZ]; exact h):p:=h
theorem zQ{p:Prop}(h:p:=by simp only [Al]; omega):p:=h
theorem Af:type_of% @List.getElem_cons_succ:=@List.getElem_cons_succ
theorem Cl:type_of% @Nat.add_assoc:=@Nat.add_assoc
theorem E8:type_of% @List.length_take:=@List.length_take
end Go.Bs
namespace Go.Proofs.YtfddhafbhceoaaaGreat
open Go.RowKit Go.Bs Go.Maps
variable{B D J J' l:List UInt8}{base c g i n:Nat}{S:Nat → Prop}{a:Option Addr}{s:Rs}{e t:TypeId}{v v0 v1 v2:Value}{W w w' w1:World}
theorem M8{W W':World}{cs:List Value}{l:List Int}(h:Cb.r (fun q=>W.heap.size≤q∧q<W'.heap.size) W' cs l):Cb.r (·<W'.heap.size) W' cs l:=Cb.mono h fun q hq=>hq.2
def Of(below:Int)(l:List Int)(w:World)(e:Ending)(w':World):Prop:=
 ∃v,e=.returned (.tuple #[v,.bool (Cz below l)])∧Cb.r (fun q=>w.heap.size≤q∧q<w'.heap.size) w' [v] (if Cz below l then BS below l else [])∧Below w.heap.size w w'
theorem OK(below:Int)(l:List Int)(a:Option Addr)(n c:Nat)(w:World)(hb0:0≤below∧below≤18446744073709551615)(hl:Cb.r (·<w.heap.size) w [.slice a n c] l)(hlen:l.length≤1000000000000):
  Calls Tryz.prog 356 #[.int .u64 below,.slice a n c] w (Of below l w):=by
 obtain⟨rfl,hm,_,_⟩:=AL hl
 obtain⟨i0,hi,hz0,hz1,hz2⟩:=A5 Um
 have HL:=hid hl;clear hl
 go_enter Tryz.func356,Tryz.ntmps356
 go_wp2
 go_loopw [0,6,11] (fun b v i wr=>∃k:Nat,k≤l.length∧i=.int .i64 k∧b=.int .u64 (ahead below l k)∧0≤ahead below l k∧ahead below l k≤18446744073709551615∧Hid (Cz below l=Cz (ahead below l k) (l.drop k))∧
   (∃xs:List Int,Hid (xs.length=k∧(∀x∈xs,0≤x∧x≤18446744073709551615)∧BS below l=xs++BS (ahead below l k) (l.drop k))∧wr.ownsRow w.heap.size 36 1 v k (xs.map (Value.int .u64)))∧Below w.heap.size w wr) (fun _ _ i _=>l.length-(intOf i).toNat)
 case atStart=>exact ⟨0,Ar _,rfl,rfl,hb0.1,hb0.2,hid rfl,⟨[],hid ⟨rfl,zM,rfl⟩,⟨rfl,.inl ⟨rfl,rfl⟩⟩⟩,Below.refl _ _⟩
 case round=>
  obtain⟨k,hk,rfl,rfl,ha0,ha1,hf,⟨xs,hxs,hown⟩,hb⟩:=hrel
  by_cases hlt:k<l.length
  ·obtain⟨b,o,hA,hbb,hc,hx0,hx1⟩:=J5 HL.out hlt
   subst hA
   have q:=(hb.cell (p:=⟨b,o+k,none⟩) hbb).trans hc
   clear hc
   have hd:=hid (AO hlt)
   have hsu:=hid (Ob below l k hlt)
   generalize hlk:l[k]=x at*
   clear hlk
   generalize ahead below l k=p at*
   by_cases hge:p≤x
   ·have hff:Hid (Cz below l=false):=by
     rw[hf.out,hd.out];exact hid (by simp[Cz];omega)
    go_wp2
    go_ret2
    exact⟨.slice none 0 0,zP,zAw,hb⟩
   ·have hbs:=hb.size
    have w1:0≤p-x:=zC
    have w2:0≤p-x-1:=zC
    go_wp2_with (at_builtin;refine wpList_append_lies _ rfl _ _ _ rfl w.heap.size 36 i0 (.int .u64 0) 1 8 Hu hi hz0 hz1 hz2 rfl zL _ k _ rfl (hown.alloc _) ⟨wr.heap.size,0,none⟩ 1 1 [.int .u64 (p-x-1)] rfl rfl (World.news_of_block (Blk.new _ _ _)) zAj zL zO zC zI _ rfl ?_;intro g1 cap1 w1' hown1 hgrow1 hat1 hlt1)
    go_roundw
    case rel=>
     refine⟨k+1,zC,zT,by rw[hsu.out],by rw[hsu.out];exact hx0,by rw[hsu.out];exact hx1,?_,⟨xs++[p-x-1],?_,?_⟩,?_⟩
     ·rw[hf.out,hd.out,hsu.out]
      exact hid zBm
     ·refine hid ⟨by simp[hxs.out.1],?_,?_⟩
      ·intro y hy
       rw[G7,B8] at hy
       rcases hy with hy | rfl
       ·exact hxs.out.2.1 y hy
       ·omega
      ·rw[hsu.out,hxs.out.2.2,hd.out]
       simp[BS]
     ·rw[Cv];exact hown1
     ·refine Below.grown ?_ hgrow1 zI (fun g e=>(hown.lt g e).1)
      exact hb.alloc hbs _
    case measure=>simp [intOf];omega
  ·obtain rfl:k=l.length:=by omega
   have hff:Hid (Cz below l=true):=by
    rw[hf.out,IP];exact hid rfl
   have hxl:=hxs.out.1
   have hst:Hid (BS below l=xs):=hid zB1
   have hv:Cb.r (fun q=>w.heap.size≤q∧q<wr.heap.size) wr [u6] xs:=Is hxs.out.2.1 hxl.symm hown
   have HV:=hid hv;clear hv hxl
   go_wp2
   go_ret2
   exact⟨u6,zP,zB2,hb⟩
theorem JO:∀(l:List Int) (p:Int),Cz p l=true→p≤18446744073709551615→(∀x∈l,0≤x)→∀y∈BS p l,0≤y∧y≤18446744073709551615
 | [],p,_,_,_,y,hy=>by simp[BS] at hy
 | x::l,p,hf,hp,hx,y,hy=>by
  simp only[Cz,Ap,Ao] at hf
  have h0:=hx x zM
  simp only[BS,List.mem_cons] at hy
  rcases hy with rfl | hy
  ·omega
  ·exact JO l x hf.2 zC (fun z hz=>hx z (by simp[hz])) y hy
theorem LO(w:World){g base most:Nat}{J:List UInt8}{a:Option Addr}(h:BG w g base most J a c)(pos:Int)(hpos:0≤pos∧pos≤18446744073709551615)(l:List Int)(al:Option Addr)(nl cl:Nat)
 (hl:Cb.r (·<w.heap.size) w [.slice al nl cl] l) (hf:Cz pos l=true) (hlen:l.length≤1000000) (hfit:J.length+(C6 pos l).length≤most) (hln2:J.length+(C6 pos l).length≤100000000000000):
  Calls Tryz.prog 345 #[.pointer (some ⟨g,0,none⟩),.int .u64 pos,.slice al nl cl] w fun r w'=>r=.returned (.tuple #[])∧AA w g base most (J++C6 pos l) a w':=by
 obtain⟨rfl,hm,_,_⟩:=AL hl
 have HS:=hid (OK pos l al _ cl w hpos hl zC)
 have hlt:=h.len
 have hsl:=Im pos l
 have hnb:=H8 (BS pos l)
 have hxs:=He hl
 have hsb:=hid (JO l pos hf hpos.2 (fun x hx=>(hxs x hx).1))
 have hvl:=A1 l.length
 have hdl:(C6 pos l).length=(AD l.length).length+(CN (BS pos l)).length:=by unfold C6;rw[Al]
 rw[hdl] at hfit hln2
 unfold Of at HS
 rw[hf] at HS
 simp only[IL] at HS
 unfold C6
 have HP:=hid h
 have HMO:=hid (fun k=>JV (BS pos l) k)
 have HNS:=hid (fun (k:Nat) (h:k<(BS pos l).length)=>It (BS pos l) k h)
 generalize BS pos l=T at*
 generalize hL:l.length=L at*
 have hLL:=hid hL
 clear h hl hf hxs hdl hL
 go_enter Tryz.func345,Tryz.ntmps345
 go_wp2_with fail
 refine HS.out.mono ?_
 rintro r w1 ⟨v,rfl,hr,hb1⟩
 obtain⟨a1,c1,hv,hr2,_⟩:=AH hr
 simp only[Av,AI] at hv
 subst hv
 rw[hsl] at hr2 ⊢
 have HR:=hid (Ir HP.out hr2)
 have HP1:=hid (HP.out.later hb1)
 have HV:=hid (CD w1 HP1.out L zC zC zC)
 clear hr hr2
 go_wp2_with fail
 refine HV.out.mono ?_
 rintro r w2 ⟨rfl,hst⟩
 have HST:=hid hst
 clear hst
 have hz1:=hb1.size
 go_wp2_with fail
 go_loopw [27] (fun i wr=>∃k:Nat,k≤L∧i=.int .i64 k∧Hid (AA w1 g base most (J++AD L++CN (T.take k)) a wr)) (fun i _=>L-(intOf i).toNat)
 case atStart=>exact ⟨0,Ar _,rfl,hid (by simpa [CN] using HST.out)⟩
 case round=>
  obtain⟨k,hk,rfl,hp⟩:=hrel
  obtain⟨a3,c3,hp3,ht3,ha3⟩:=hp.out
  rcases Bl k L with hlt | hge
  ·have hd3:=Fe ht3 ha3 HR.out
   have hkT:k<T.length:=zC
   obtain⟨b,o,hA,hbb,hc,hx0,hx1⟩:=J5 hd3 hkT
   subst hA
   have hst:=HNS.out k hkT
   have hfk:=HMO.out (k+1)
   rw[hst,Al] at hfk
   have HSK:=hid hst
   have hvk:=(A1 T[k].toNat).1
   have hJ3:=hp3.len
   simp only[Al] at hJ3
   have hV:=CD wr hp3 T[k].toNat zC zQ zQ
   rw[toNat_cast hx0,Au (J++AD L),←hst] at hV
   have HV3:=hid hV
   have HT3:=hid (And.intro ht3 ha3)
   have i1:(k:Int)<(L:Int):=zC
   have d1:decide ((k:Int)<(L:Int))=true:=Ad i1
   clear hV hd3 hst hp3 ht3 ha3 hp hfk hvk hJ3
   generalize T[k]=y at*
   go_wp2_with fail
   refine HV3.out.mono ?_
   rintro r w5 ⟨rfl,hst5⟩
   have HN:=hid (AA.trans (J:=J) HT3.out.1 HT3.out.2 hst5)
   clear hst5
   go_wp2
   go_roundw
   case rel=>exact ⟨k+1,zC,zT,HN⟩
   case measure=>simp [intOf];omega
  ·obtain rfl:k=L:=by omega
   have d1:decide ((k:Int)<(k:Int))=false:=Ae zC
   rw[Bp zC] at hp
   have HN:=hid (AA.later hb1 hp.out)
   rw[Au] at HN
   clear hp hp3 ht3 ha3
   go_wp2
   first | go_end0 | refine Ax (A4 rfl _ _ _) rfl ?_
   exact⟨rfl,HN.out⟩
theorem TW(w:World)(pos:Int)(hpos:0≤pos∧pos≤18446744073709551615)(l:List Int)(al:Option Addr)(nl cl:Nat)
 (hl:Cb.r (·<w.heap.size) w [.slice al nl cl] l) (hf:Cz pos l=true) (hlen:l.length≤1000000):
  Calls Tryz.prog 357 #[.int .u64 pos,.slice al nl cl] w fun r w'=>r=.returned (.int .i64 ((C6 pos l).length:Int))∧Below w.heap.size w w':=by
 obtain⟨rfl,hm,_,_⟩:=AL hl
 have HS:=hid (OK pos l al _ cl w hpos hl zC)
 have hsl:=Im pos l
 have hxs:=He hl
 have hnb:=H8 (BS pos l)
 have hvl:=A1 l.length
 unfold Of at HS
 rw[hf] at HS
 simp only[IL] at HS
 have hdl:(C6 pos l).length=(AD l.length).length+(CN (BS pos l)).length:=by unfold C6;rw[Al]
 rw[hdl]
 have HMO:=hid (fun k=>JV (BS pos l) k)
 have HNS:=hid (fun (k:Nat) (h:k<(BS pos l).length)=>It (BS pos l) k h)
 have HVS:=hid (fun (W:World)=>DW l.length zC W)
 generalize BS pos l=T at*
 generalize hL:l.length=L at*
 have hLL:=hid hL
 generalize AD L=VL at*
 clear hl hf hxs hdl hL
 go_enter Tryz.func357,Tryz.ntmps357
 go_wp2_with fail
 refine HS.out.mono ?_
 rintro r w1 ⟨v,rfl,hr,hb1⟩
 obtain⟨a1,c1,hv,hr2,_⟩:=AH hr
 simp only[Av,AI] at hv
 subst hv
 rw[hsl] at hr2 ⊢
 have HR:=hid (M8 hr2)
 clear hr hr2
 go_wp2_with fail
 refine (HVS.out _).mono ?_
 rintro r w2 ⟨rfl,hb2⟩
 have hbw2:=Aj hb2 hb1
 go_wp2_with fail
 go_loopw [7,24] (fun n i wr=>∃k m:Nat,k≤L∧i=.int .i64 k∧n=.int .i64 m∧Hid (m=VL.length+(CN (T.take k)).length)∧Below w1.heap.size w1 wr) (fun _ i _=>L-(intOf i).toNat)
 case atStart=>exact ⟨0,VL.length,Ar _,rfl,rfl,hid (by simp[CN]),hb2⟩
 case round=>
  obtain⟨k,m,hk,rfl,rfl,hmm,hb⟩:=hrel
  have hmo:=HMO.out k
  have hmk:=hmm.out
  rcases Bl k L with hlt | hge
  ·have hkT:k<T.length:=by omega
   obtain⟨b,o,hA,hbb,hc,hx0,hx1⟩:=J5 (lift HR.out hb) hkT
   subst hA
   have hst:=HNS.out k hkT
   have hvk:=(A1 T[k].toNat).1
   have hV:=fun (W:World)=>DW T[k].toNat zC W
   rw[toNat_cast hx0] at hV
   have HV3:=hid hV
   have HM:Hid (m+(AD T[k].toNat).length=VL.length+(CN (T.take (k+1))).length):=hid (by rw[hst,Al];omega)
   have i1:(k:Int)<(L:Int):=zC
   have d1:decide ((k:Int)<(L:Int))=true:=Ad i1
   have hmb:m≤100000000:=zC
   generalize AD T[k].toNat=VK at*
   generalize T[k]=y at*
   clear hV hst hmo hmk hmm
   go_wp2_with fail
   refine (HV3.out _).mono ?_
   rintro r w5 ⟨rfl,hb5⟩
   have hbw5:=Aj hb5 hb
   go_wp2
   go_roundw
   case rel=>exact ⟨k+1,m+VK.length,zC,zT,zT,HM,hbw5⟩
   case measure=>simp [intOf];omega
  ·obtain rfl:k=L:=by omega
   have d1:decide ((k:Int)<(k:Int))=false:=Ae zC
   have hfin:Hid (m=VL.length+(CN T).length):=hid (by rw[hmk,Bp (by omega)])
   clear hmo hmk hmm
   go_wp2
   go_ret
   exact⟨by rw[hfin.out];simp,Aj hb hb1⟩
theorem M4:∀(l:List Int) (k:Nat) (h:k+1<l.length),C9 l=true→l[k]<l[k+1]
 | [],k,h,_=>by simp at h
 | [x],k,h,_=>by simp at h
 | x::y::l,k,h,hr=>by
  simp only[C9,Ap,Ao] at hr
  cases k with
  | zero=>exact hr.1
  | succ k=>exact M4 (y::l) k ZL hr.2
theorem MT:∀(l:List Be) (p:Option Int) (k:Nat) (h:k<l.length),(E4 p l)[k]'Z2=if hk:k=0 then (match p with | none=>l[k].stream | some q=>l[k].stream-q-1) else l[k].stream-(l[k-1]'zC).stream-1
 | [],p,k,h=>by simp at h
 | x::l,p,0,h=>by cases p<;>simp [E4]
 | x::l,p,k+1,h=>by
  simp only[E4,Af]
  rw[MT l (some x.stream) k ZL]
  cases k with
  | zero=>simp
  | succ k=>simp
def FX(pos:Int)(p:Option Int)(l:List Be):List (List UInt8):=List.zipWith (fun (y:Int) (x:Be)=>AD y.toNat++C6 pos x.backs) (E4 p l) l
theorem Ki(pos:Int):∀(l:List Be) (p:Option Int),Ia pos p l=(FX pos p l).flatten
 | [],p=>rfl
 | x::l,p=>by
  simp only[Ia,FX,E4,List.zipWith_cons_cons,FU]
  rw[Ki pos l (some x.stream)]
  rfl
theorem Ly(pos:Int)(p:Option Int)(l:List Be):(FX pos p l).length=l.length:=by simp[FX,IZ]
theorem Pf{α:Type}(Z:List (List α))(k:Nat)(h:k<Z.length):(Z.take (k+1)).flatten=(Z.take k).flatten++Z[k]:=by
 rw[AU h,EK];simp
theorem KX{α:Type}(Z:List (List α))(k:Nat):(Z.take k).flatten.length≤Z.flatten.length:=by
 have:Z.flatten=(Z.take k).flatten++(Z.drop k).flatten:=by rw[←EK,Bn]
 rw[this,Al];omega
theorem O6(pos:Int)(l:List Be)(k:Nat)(h:k<l.length):(FX pos none l)[k]'(by rw[Ly];exact h)=AD ((E4 none l)[k]'Z2).toNat++C6 pos l[k].backs:=by
 simp[FX]
theorem No(w:World)(l:List Be)(al:Option Addr)(nl cl:Nat)(hl:Cx.r (·<w.heap.size) w [.slice al nl cl] l)(hri:C9 (l.map Be.stream)=true)(hlen:l.length≤1000000):
  Calls Tryz.prog 344 #[.slice al nl cl] w fun r w'=>∃v,r=.returned v∧Cb.r (fun q=>w.heap.size≤q∧q<w'.heap.size) w' [v] (E4 none l)∧Below w.heap.size w w':=by
 obtain⟨rfl,hm,_,_⟩:=AL hl
 obtain⟨i0,hi,hz0,hz1,hz2⟩:=A5 Um
 have HL:=hid hl
 have hul:=IZ none l
 have HU:=hid (fun (k:Nat) (h:k<l.length)=>MT l none k h)
 have HRI:=hid (fun (k:Nat) (h:k+1<l.length)=>(by have:=M4 (l.map Be.stream) k ZL hri;simpa using this:l[k].stream<l[k+1].stream))
 clear hl hri
 go_enter Tryz.func344,Tryz.ntmps344
 go_wp2_with fail
 go_loopw [3,9] (fun v i wr=>∃k:Nat,k≤l.length∧i=.int .i64 k∧wr.ownsRow w.heap.size 36 1 v k (CX ((E4 none l).take k))∧Hid (∀x∈(E4 none l).take k,0≤x∧x≤18446744073709551615)∧Below w.heap.size w wr) (fun _ i _=>l.length-(intOf i).toNat)
 case atStart=>exact ⟨0,Ar _,rfl,⟨rfl,.inl ⟨rfl,rfl⟩⟩,hid zM,Below.refl _ _⟩
 case round=>
  obtain⟨k,hk,rfl,hown,hbd,hb⟩:=hrel
  obtain⟨av,cv,rfl⟩:=AV hown
  rcases Bl k l.length with hlt | hge
  ·obtain⟨b,o,hA,hbb,a2,c2,x0,x1,hx,xl⟩:=FK (lift HL.out hb) hlt
   subst hA
   have hu:=HU.out k hlt
   have i1:(k:Int)<(l.length:Int):=zC
   have d1:decide ((k:Int)<(l.length:Int))=true:=Ad i1
   have hbl:b<wr.heap.size:=Dn _ _ x0
   have htk:CX ((E4 none l).take (k+1))=CX ((E4 none l).take k)++[.int .u64 ((E4 none l)[k]'zC)]:=by
    rw[AU zC];unfold CX;rw[Cv];rfl
   have hnb:∀y:Int,(E4 none l)[k]'zC=y→(0≤y∧y≤18446744073709551615)→∀x∈(E4 none l).take (k+1),0≤x∧x≤18446744073709551615:=fun y e hy x hx=>by
    rw[AU zC,G7,B8] at hx
    rcases hx with hx | rfl
    ·exact hbd.out x hx
    ·rw[e];exact hy
   have HTK:=hid htk
   have HNB:=hid hnb
   have HO:=hid hown
   have hz:=hb.size
   rcases DR k with rfl | hk0
   ·rw[dif_pos rfl] at hu
    (try dsimp only at hu)
    rw[hu] at HTK
    have HBD:=hid (HNB.out _ hu hx)
    simp only[Nat.zero_mul,Ed,A7] at x0 x1
    have d2:decide ((0:Int)<((0:Nat):Int))=false:=zL
    generalize l[0]=y at*
    clear hu htk hnb hbd hown xl hx
    go_wp2_with (at_builtin;go_loud (refine AB rfl _ _ _ rfl w.heap.size 36 i0 (.int .u64 0) 1 8 Hu hi hz0 hz1 hz2 rfl zL (.slice av 0 cv) 0 _ rfl (Bz HO.out zA) (some ⟨wr.heap.size+1,0,none⟩) 1 1 [.int .u64 y.stream] rfl (BU _ 36 _ rfl zM rfl) zAj zO zC zI ?_;intro v' w3 hown3 hgrow3 hat3;obtain⟨a3,c3,rfl⟩:=AV hown3;have HO3:=hid hown3;have hb3:Below w.heap.size wr w3:=(Below.grown ((by (repeat (first | with_reducible exact Below.refl _ _ | with_reducible assumption | (with_reducible refine Aw ?_ _) | (with_reducible refine Below.setCell ?_ zE _) | (with_reducible refine Below.drew ?_) | (with_reducible refine below_drewN ?_ _) | (refine Aj zG ?_))):Below wr.heap.size wr _).mono hz) hgrow3 zI (fun g e=>(HO.out.lt g e).1));clear hown3 hgrow3 hat3))
    have ho3:=HO3.out
    rw[←HTK.out] at ho3
    have HO4:=hid ho3
    clear ho3 x0 x1
    go_roundw
    case rel=>exact ⟨1,zC,zT,by simpa using HO4.out,HBD,hb.trans hb3⟩
    case measure=>simp [intOf];omega
   ·obtain⟨m,rfl⟩:∃m,k=m+1:=⟨k-1,zC⟩
    obtain⟨b',o',hA',hbb',a3,c3,y0,y1,hy,yl⟩:=FK (lift HL.out hb) (show m<l.length by omega)
    simp only[BV,Addr.mk.injEq] at hA'
    obtain⟨rfl,rfl,_⟩:=hA'
    have hri:=HRI.out m hlt
    rw[dif_neg zC] at hu
    simp only[Nat.add_sub_cancel] at hu
    rw[hu] at HTK
    have HBD:=hid (HNB.out _ hu zC)
    have i1':(m:Int)+1<(l.length:Int):=zC
    have i2:(m:Int)<(l.length:Int):=zC
    have d2:decide ((m:Int)+1<(l.length:Int))=true:=Ad i1'
    have d3:decide (m+1<l.length)=true:=Ad hlt
    generalize l[m+1]=y at*
    generalize l[m]'zC=z at*
    have w1:0≤y.stream-(z.stream+1):=zC
    have w2:z.stream+1≤18446744073709551615:=zC
    rw[show y.stream-z.stream-1=y.stream-(z.stream+1) by omega] at HTK
    clear hu htk hnb hbd hown xl yl
    go_wp2_with (at_builtin;go_loud (refine AB rfl _ _ _ rfl w.heap.size 36 i0 (.int .u64 0) 1 8 Hu hi hz0 hz1 hz2 rfl zL (.slice av (m+1) cv) (m+1) _ rfl (Bz HO.out zA) (some ⟨wr.heap.size+1,0,none⟩) 1 1 [.int .u64 (y.stream-(z.stream+1))] rfl (BU _ 36 _ rfl zM rfl) zAj zO zC zI ?_;intro v' w3 hown3 hgrow3 hat3;obtain⟨a3,c3,rfl⟩:=AV hown3;have HO3:=hid hown3;have hb3:Below w.heap.size wr w3:=(Below.grown ((by (repeat (first | with_reducible exact Below.refl _ _ | with_reducible assumption | (with_reducible refine Aw ?_ _) | (with_reducible refine Below.setCell ?_ zE _) | (with_reducible refine Below.drew ?_) | (with_reducible refine below_drewN ?_ _) | (refine Aj zG ?_))):Below wr.heap.size wr _).mono hz) hgrow3 zI (fun g e=>(HO.out.lt g e).1));clear hown3 hgrow3 hat3))
    have ho3:=HO3.out
    rw[←HTK.out] at ho3
    have HO4:=hid ho3
    clear ho3 x0 x1 y0 y1
    go_roundw
    case rel=>exact ⟨m+1+1,zC,zT,HO4.out,HBD,hb.trans hb3⟩
    case measure=>simp [intOf];omega
  ·obtain rfl:k=l.length:=by omega
   have d1:decide ((l.length:Int)<(l.length:Int))=false:=Ae zC
   have hv:=hown
   rw[Bp zC] at hv hbd
   have HV:=hid (Is hbd.out zC hv)
   clear hv hown
   go_wp2
   go_ret
   exact⟨_,rfl,HV.out,hb⟩
theorem QN(l:List Be)(hri:C9 (l.map Be.stream)=true)(hx:∀x∈l,0≤x.stream∧x.stream≤18446744073709551615):∀k,(h:k<l.length)→0≤(E4 none l)[k]'Z2∧(E4 none l)[k]'Z2≤18446744073709551615:=by
 intro k h
 rw[MT l none k h]
 have hk:=hx l[k] (A0 h)
 split
 ·exact hk
 ·rename_i h0
  have h1:=hx (l[k-1]'zC) (A0 _)
  have h2:=M4 (l.map Be.stream) (k-1) zI hri
  simp only[List.getElem_map,Nat.sub_add_cancel (show 1≤k by omega)] at h2
  omega
theorem Iy{l:List Be}(h:Cx.r S w [.slice a n c] l):∀x∈l,Rl x:=by
 intro x hx
 obtain⟨i,hi,rfl⟩:=List.getElem_of_mem hx
 obtain⟨b,o,_,_,a2,c2,_,_,hs,xl⟩:=FK h hi
 exact⟨hs,fun y hy=>(He xl y hy).1⟩
theorem KQ(pos:Int)(l:List Be)(hR:DI pos l=true):(Ia pos none l).length≤51*l.length:=by
 have key:∀(l:List Be) (p:Option Int),(∀x∈l,DL pos x=true)→(Ia pos p l).length≤51*l.length:=by
  intro l
  induction l with
  | nil=>intro p _;simp[Ia]
  | cons x l ih=>
   intro p hx
   have h1:=hx x zM
   simp only[DL,Ap,Ao] at h1
   have h2:=ih (some x.stream) (fun y hy=>hx y (by simp[hy]))
   have h3:=TX pos x.backs zC
   cases p with
   | none=>
    have h4:=(A1 x.stream.toNat).1
    simp only[Ia,Al,Ay]
    omega
   | some q=>
    have h4:=(A1 (x.stream-q-1).toNat).1
    simp only[Ia,Al,Ay]
    omega
 simp only[DI,Ap,Ao,List.all_eq_true] at hR
 exact key l none hR.2.2
theorem WT(w:World){g base most:Nat}{J:List UInt8}{a:Option Addr}(h:BG w g base most J a c)(pos:Int)(hpos:0≤pos∧pos≤18446744073709551615)(l:List Be)(al:Option Addr)(nl cl:Nat)
 (hl:Cx.r (fun q=>q<w.heap.size∧¬Dm g a q) w [.slice al nl cl] l) (hR:DI pos l=true) (hbk:∀x∈l,x.backs.length≤1000000) (hfit:J.length+(DP pos l).length≤most) (hln2:J.length+(DP pos l).length≤100000000000000):
  Calls Tryz.prog 300 #[.pointer (some ⟨g,0,none⟩),.int .u64 pos,.slice al nl cl] w fun r w'=>r=.returned (.tuple #[])∧AA w g base most (J++DP pos l) a w':=by
 obtain⟨rfl,hm,_,_⟩:=AL hl
 have hN:=Iy hl
 have HRT:=hid (Kj pos l al _ cl w hpos (Hg hl) (fun x hx=>zAz))
 have hR':=hR
 simp only[DI,Ap,Ao,List.all_eq_true] at hR'
 rw[hR] at HRT
 have hlk:∀x∈l,Cz pos x.backs=true:=fun x hx=>by have:=hR'.2.2 x hx;simp only[DL,Ap] at this;exact this.2
 have HLK:=hid hlk
 have HBK:=hid hbk
 have hup:=hid (QN l hR'.2.1 (fun x hx=>(hN x hx).1))
 have hul:=IZ none l
 have hzl:=Ly pos none l
 have HSP:=hid (fun (W:World) (hW:Cx.r (·<W.heap.size) W [.slice al l.length cl] l)=>No W l al _ cl hW hR'.2.1 zC)
 have hdl:(DP pos l).length=(AD l.length).length+((FX pos none l).flatten).length:=zBy
 rw[hdl] at hfit hln2
 unfold DP
 rw[Ki]
 have HP:=hid h
 have HL:=hid hl
 have hvl:=A1 l.length
 have HV:=hid (fun (W:World) (hW:Below w.heap.size w W)=>CD W (h.later hW) l.length zC zC zC)
 have HMO:=hid (fun k=>KX (FX pos none l) k)
 have HNS:=hid (fun (k:Nat) (h:k<l.length)=>(by have:=Pf (FX pos none l) k zC;rw[O6 pos l k h] at this;exact this:((FX pos none l).take (k+1)).flatten=((FX pos none l).take k).flatten++(AD ((E4 none l)[k]'Z2).toNat++C6 pos l[k].backs)))
 generalize FX pos none l=Z at*
 have hll:l.length≤16:=hR'.1
 clear h hl hR hR' hlk hbk hN hdl
 go_enter Tryz.func300,Tryz.ntmps300
 go_wp2_with fail
 refine HRT.out.mono ?_
 rintro r w1 ⟨rfl,hb1⟩
 go_wp2_with fail
 refine (HV.out _ hb1).mono ?_
 rintro r w2 ⟨rfl,a2,c2,hp2,ht2,ha2⟩
 have hd2:=Fe ht2 ha2 (GI hb1 HL.out)
 have HP2:=hid hp2
 have HD2:=hid hd2
 have HT2:=hid (And.intro ht2 ha2)
 clear hp2 hd2 ht2 ha2
 go_wp2_with fail
 refine (HSP.out w2 (Hg HD2.out)).mono ?_
 rintro r w3 ⟨v3,rfl,hr3,hb3⟩
 obtain⟨a3,c3,hv3,hr3',_⟩:=AH hr3
 simp only[Av,AI] at hv3
 subst hv3
 have HR3:=hid (Ir HP2.out hr3')
 have HD3:=hid (GI hb3 HD2.out)
 have HP3:=hid (HP2.out.later hb3)
 rw[hul] at HR3 ⊢
 clear hr3 hr3'
 go_wp2_with fail
 go_loopw [22] (fun i wr=>∃k:Nat,k≤l.length∧i=.int .i64 k∧Hid (AA w3 g base most (J++AD l.length++(Z.take k).flatten) a2 wr)) (fun i _=>l.length-(intOf i).toNat)
 case atStart=>exact ⟨0,Ar _,rfl,hid (by simpa using AA.refl HP3.out)⟩
 case round=>
  obtain⟨k,hk,rfl,hp⟩:=hrel
  obtain⟨a4,c4,hp4,ht4,ha4⟩:=hp.out
  rcases Bl k l.length with hlt | hge
  ·have hr4:=Fe ht4 ha4 HR3.out
   have hd4:=Fe ht4 ha4 HD3.out
   obtain⟨b,o,hA,hbb,hc,hx0,hx1⟩:=J5 hr4 (show k<(E4 none l).length by omega)
   obtain⟨b',o',hA',hbb',a5,c5,y0,y1,hs,yl⟩:=FK hd4 hlt
   subst hA hA'
   have hst:=HNS.out k hlt
   have hfk:=HMO.out (k+1)
   rw[hst,Al,Al] at hfk
   have hvk:=(A1 ((E4 none l)[k]'zC).toNat).1
   have hJ4:=hp4.len
   simp only[Al] at hJ4
   have hV:=CD wr hp4 ((E4 none l)[k]'zC).toNat zC zQ zQ
   rw[toNat_cast hx0] at hV
   have HV4:=hid hV
   have HT4:=hid (And.intro ht4 ha4)
   have HYL:=hid yl
   have HST:=hid hst
   have HFK:=hid hfk
   have hfl:=HLK.out l[k] (A0 hlt)
   have hbl:=HBK.out l[k] (A0 hlt)
   have HFL:=hid hfl
   have HDY:=hid (And.intro hbb' y1)
   have i1:(k:Int)<(l.length:Int):=zC
   have d1:decide ((k:Int)<(l.length:Int))=true:=Ad i1
   clear hV hr4 hd4 hst hp4 ht4 ha4 hp hfk hvk hJ4 hfl y0 yl y1 hbb'
   generalize (E4 none l)[k]'zC=u at*
   generalize l[k]=y at*
   go_wp2_with fail
   refine HV4.out.mono ?_
   rintro r w5 ⟨rfl,a6,c6,hp5,ht5,ha5⟩
   have Y1:w5.cell? ⟨b',o'+k*2+1,none⟩=some (.slice a5 y.backs.length c5):=(ht5.cell (p:=⟨b',o'+k*2+1,none⟩) HDY.out.1.1 HDY.out.1.2).trans HDY.out.2
   have hy5:=Hg (Fe ht5 ha5 HYL.out)
   have HD5:=hid (LO w5 hp5 pos hpos y.backs a5 _ c5 hy5 HFL.out hbl zBp zBp)
   have HT5:=hid (And.intro ht5 ha5)
   clear hy5 hp5 ht5 ha5 hc
   go_wp2_with fail
   refine HD5.out.mono ?_
   rintro r w6 ⟨rfl,hst6⟩
   have hn:=AA.trans (J:=J) HT4.out.1 HT4.out.2 (AA.trans (J:=J) HT5.out.1 HT5.out.2 hst6)
   rw[Au,Au (J++AD l.length),←HST.out] at hn
   have HN:=hid hn
   clear hst6 hn Y1
   go_wp2
   go_roundw
   case rel=>exact ⟨k+1,zC,zT,HN⟩
   case measure=>simp [intOf];omega
  ·obtain rfl:k=l.length:=by omega
   have d1:decide ((l.length:Int)<(l.length:Int))=false:=Ae zC
   rw[Bp zC] at hp
   have hn:=AA.later hb1 (AA.trans (J:=J) HT2.out.1 HT2.out.2 (AA.later hb3 hp.out))
   rw[Au] at hn
   have HN:=hid hn
   clear hp hp4 ht4 ha4 hn
   go_wp2
   first | go_end0 | refine Ax (A4 rfl _ _ _) rfl ?_
   exact⟨rfl,HN.out⟩
theorem Vj(w:World)(pos:Int)(hpos:0≤pos∧pos≤18446744073709551615)(l:List Be)(al:Option Addr)(nl cl:Nat)
 (hl:Cx.r (·<w.heap.size) w [.slice al nl cl] l) (hR:DI pos l=true) (hbk:∀x∈l,x.backs.length≤1000000):
  Calls Tryz.prog 338 #[.int .u64 pos,.slice al nl cl] w fun r w'=>r=.returned (.int .i64 ((DP pos l).length:Int))∧Below w.heap.size w w':=by
 obtain⟨rfl,hm,_,_⟩:=AL hl
 have hN:=Iy hl
 have HRT:=hid (Kj pos l al _ cl w hpos hl (fun x hx=>zAz))
 have hR':=hR
 simp only[DI,Ap,Ao,List.all_eq_true] at hR'
 rw[hR] at HRT
 have hlk:∀x∈l,Cz pos x.backs=true:=fun x hx=>by have:=hR'.2.2 x hx;simp only[DL,Ap] at this;exact this.2
 have HLK:=hid hlk
 have HBK:=hid hbk
 have hul:=IZ none l
 have hzl:=Ly pos none l
 have HSP:=hid (fun (W:World) (hW:Cx.r (·<W.heap.size) W [.slice al l.length cl] l)=>No W l al _ cl hW hR'.2.1 zC)
 have hdl:(DP pos l).length=(AD l.length).length+((FX pos none l).flatten).length:=zBy
 have hle:=KQ pos l hR
 rw[Ki] at hle
 rw[hdl]
 have HL:=hid hl
 have hvl:=A1 l.length
 have HV:=hid (fun (W:World)=>DW l.length zC W)
 have HMO:=hid (fun k=>KX (FX pos none l) k)
 have HNS:=hid (fun (k:Nat) (h:k<l.length)=>(by have:=Pf (FX pos none l) k zC;rw[O6 pos l k h] at this;exact this:((FX pos none l).take (k+1)).flatten=((FX pos none l).take k).flatten++(AD ((E4 none l)[k]'Z2).toNat++C6 pos l[k].backs)))
 generalize FX pos none l=Z at*
 generalize AD l.length=VL at*
 have hll:l.length≤16:=hR'.1
 clear hl hR hR' hlk hbk hN hdl
 go_enter Tryz.func338,Tryz.ntmps338
 go_wp2_with fail
 refine HRT.out.mono ?_
 rintro r w1 ⟨rfl,hb1⟩
 go_wp2_with fail
 refine (HV.out w1).mono ?_
 rintro r w2 ⟨rfl,hb2⟩
 have hb12:=Aj hb2 hb1
 go_wp2_with fail
 refine (HSP.out w2 (lift HL.out hb12)).mono ?_
 rintro r w3 ⟨v3,rfl,hr3,hb3⟩
 obtain⟨a3,c3,hv3,hr3',_⟩:=AH hr3
 simp only[Av,AI] at hv3
 subst hv3
 have HR3:=hid (M8 hr3')
 have hbw3:=Aj hb3 hb12
 rw[hul] at HR3 ⊢
 clear hr3 hr3'
 go_wp2_with fail
 go_loopw [5,19] (fun n i wr=>∃k m:Nat,k≤l.length∧i=.int .i64 k∧n=.int .i64 m∧Hid (m=VL.length+(Z.take k).flatten.length)∧Below w3.heap.size w3 wr) (fun _ i _=>l.length-(intOf i).toNat)
 case atStart=>exact ⟨0,VL.length,Ar _,rfl,rfl,hid zM,Below.refl _ _⟩
 case round=>
  obtain⟨k,m,hk,rfl,rfl,hmm,hb⟩:=hrel
  have hmo:=HMO.out k
  have hmk:=hmm.out
  rcases Bl k l.length with hlt | hge
  ·obtain⟨b,o,hA,hbb,hc,hx0,hx1⟩:=J5 (lift HR3.out hb) (show k<(E4 none l).length by omega)
   have hbw:=Aj hb hbw3
   obtain⟨b',o',hA',hbb',a5,c5,y0,y1,hs,yl⟩:=FK (lift HL.out hbw) hlt
   subst hA hA'
   have hst:=HNS.out k hlt
   have hfk:=HMO.out (k+1)
   rw[hst,Al,Al] at hfk
   have HV4:=hid (fun (W:World)=>(by have:=DW ((E4 none l)[k]'zC).toNat zC W;rw[toNat_cast hx0] at this;exact this:Calls Tryz.prog 245 #[.int .u64 ((E4 none l)[k]'zC)] W fun r w'=>r=.returned (.int .i64 (AD ((E4 none l)[k]'zC).toNat).length)∧Below W.heap.size W w'))
   have hfl:=HLK.out l[k] (A0 hlt)
   have hbl:=HBK.out l[k] (A0 hlt)
   have HD4:=hid (fun s:AM wr=>TW s.at_ pos hpos l[k].backs a5 _ c5 (lift yl s.below) hfl hbl)
   have HV5:=hid (fun s:AM wr=>HV4.out s.at_)
   have HM:Hid (m+((AD ((E4 none l)[k]'zC).toNat).length+(C6 pos l[k].backs).length)=VL.length+(Z.take (k+1)).flatten.length):=hid (by rw[hst];simp only[Al];omega)
   have hmb:m≤1000000:=zC
   have hd1:(AD ((E4 none l)[k]'zC).toNat).length≤1000000∧(C6 pos l[k].backs).length≤1000000:=zC
   have i1:(k:Int)<(l.length:Int):=zC
   have d1:decide ((k:Int)<(l.length:Int))=true:=Ad i1
   have Y1:=fun s:AM wr=>s.cell y1
   generalize AD ((E4 none l)[k]'zC).toNat=VK at*
   generalize C6 pos l[k].backs=DK at*
   generalize (E4 none l)[k]'zC=u at*
   generalize l[k]=y at*
   clear HV4 hst hmo hmk hmm hfk hfl yl y0
   go_wp2_with fail
   refine Az zJ zJ ?_
   repeat (go_big_quiet_step ((first | (go_at_call 245;with_reducible exact CH (HV5.out _)) | (go_at_call 357;with_reducible exact CH (HD4.out _)))))
   refine AT ?_
   rintro W5 ⟨⟨W5',hb5⟩,rfl⟩
   have hbw5:=Aj hb5 hb
   clear Y1
   go_wp2
   go_roundw
   case rel=>exact ⟨k+1,m+(VK.length+DK.length),zC,zT,zT,HM,hbw5⟩
   case measure=>simp [intOf];omega
  ·obtain rfl:k=l.length:=by omega
   have d1:decide ((l.length:Int)<(l.length:Int))=false:=Ae zC
   have hfin:Hid (m=VL.length+Z.flatten.length):=hid (by rw[hmk,Bp (by omega)])
   clear hmo hmk hmm
   go_wp2
   go_ret
   exact⟨by rw[hfin.out];simp,Aj hb hbw3⟩
def JY(pos:Int)(e:Entry):Nat:=if D8 pos e=true then (FY pos e).length else 0
theorem Ny(pos:Int)(e:Entry):JY pos e≤1000:=by
 unfold JY
 split
 ·rename_i h
  simp only[D8,Ap] at h
  have h1:=KQ pos e.links h.1
  have h2:=h.1
  simp only[DI,Ap,Ao] at h2
  have h3:=(A1 e.links.length).1
  have h4:=(A1 e.data.length).1
  simp only[FY,DP,Al]
  omega
 ·omega
theorem YW(h:Blk w g t #[v0,v1]):w.cell? ⟨g,0,none⟩=some v0∧w.cell? ⟨g,1,none⟩=some v1∧g<w.heap.size:=
 ⟨h.cell 0,h.cell 1,h.lt⟩
theorem NP(w:World)(pos:Int)(hpos:0≤pos∧pos≤18446744073709551615)(e:Entry)(a1 a2:Option Addr)(n1 c1 n2 c2:Nat)
 (hl:Cx.r (·<w.heap.size) w [.slice a1 n1 c1] e.links) (hd:Am.r (·<w.heap.size) w [.slice a2 n2 c2] e.data) (hbk:∀x∈e.links,x.backs.length≤1000000):
  Calls Tryz.prog 279 #[.int .u64 pos,.agg #[.slice a1 n1 c1,.slice a2 n2 c2]] w fun r w'=>r=.returned (.int .i64 (JY pos e:Int))∧Below w.heap.size w w':=by
 obtain⟨rfl,hm1,_,_⟩:=AL hl
 obtain⟨rfl,hm2,_,_⟩:=AL hd
 have HER:=hid (fun (W:World) (hW:Below w.heap.size w W)=>Js pos e a1 a2 _ c1 _ c2 W hpos (fun x hx=>zAz) (lift hl hW) (lift hd hW))
 unfold JY
 cases hR:D8 pos e
 ·rw[hR] at HER
  rw[Ai zM]
  go_enter Tryz.func279,Tryz.ntmps279
  go_wp2_with fail
  refine (HER.out _ zA).mono ?_
  rintro r w1 ⟨rfl,hb1⟩
  go_wp2
  go_ret
  exact⟨rfl,zA⟩
 ·rw[hR] at HER
  rw[Ag rfl]
  have hR':=hR
  simp only[D8,Ap,Ao] at hR'
  have hbl:(FY pos e).length=(DP pos e.links).length+(AD e.data.length).length:=by unfold FY;rw[Al]
  have hle:=Ny pos e
  unfold JY at hle
  rw[Ag hR,hbl] at hle
  rw[hbl]
  have HLS:=hid (fun (W:World) (hW:Below w.heap.size w W)=>Vj W pos hpos e.links a1 _ c1 (lift hl hW) hR'.1 hbk)
  have HVS:=hid (fun (W:World)=>DW e.data.length zC W)
  have hdl:=hR'.2
  generalize AD e.data.length=V at*
  generalize DP pos e.links=LB at*
  clear hl hd hR hR' hbl
  go_enter Tryz.func279,Tryz.ntmps279
  go_wp2_with fail
  refine (HER.out _ zA).mono ?_
  rintro r w1 ⟨rfl,hb1⟩
  have B1:=Blk.later (Blk.newAt w 180 #[.slice a1 e.links.length c1,.slice a2 e.data.length c2] rfl) hb1
  have hbw1:Below w.heap.size w w1:=zA
  have C0:=fun s:AM w1=>s.cell (B1.cell 0)
  have C1:=fun s:AM w1=>s.cell (B1.cell 1)
  simp at C0 C1
  have HS1:=hid (fun s:AM w1=>HLS.out s.at_ (Aj s.below hbw1))
  have HS2:=hid (fun s:AM w1=>HVS.out s.at_)
  clear B1 hb1
  go_wp2_with fail
  refine Az zJ zJ ?_
  repeat (go_big_quiet_step ((first | (go_at_call 338;with_reducible exact CH (HS1.out _)) | (go_at_call 245;with_reducible exact CH (HS2.out _)))))
  refine AT ?_
  rintro W5 ⟨⟨W5',hb5⟩,rfl⟩
  clear C0 C1
  go_wp2
  go_ret
  exact⟨zM,Aj hb5 hbw1⟩
theorem Oy(w:World){g base most:Nat}{J:List UInt8}{a:Option Addr}(h:BG w g base most J a c)(pos:Int)(hpos:0≤pos∧pos≤18446744073709551615)(e:Entry)(a1 a2:Option Addr)(n1 c1 n2 c2:Nat)
 (hl:Cx.r (fun q=>q<w.heap.size∧¬Dm g a q) w [.slice a1 n1 c1] e.links) (hd:Am.r (·<w.heap.size) w [.slice a2 n2 c2] e.data) (hR:D8 pos e=true) (hbk:∀x∈e.links,x.backs.length≤1000000) (hfit:J.length+(FY pos e).length≤most) (hln2:J.length+(FY pos e).length≤100000000000000):
  Calls Tryz.prog 280 #[.pointer (some ⟨g,0,none⟩),.int .u64 pos,.agg #[.slice a1 n1 c1,.slice a2 n2 c2]] w fun r w'=>r=.returned (.tuple #[])∧AA w g base most (J++FY pos e) a w':=by
 obtain⟨rfl,hm1,_,_⟩:=AL hl
 obtain⟨rfl,hm2,_,_⟩:=AL hd
 have HER:=hid (fun (W:World) (hW:Below w.heap.size w W)=>Js pos e a1 a2 _ c1 _ c2 W hpos (fun x hx=>zAz) (lift (Hg hl) hW) (lift hd hW))
 rw[hR] at HER
 have hR':=hR
 simp only[D8,Ap,Ao] at hR'
 have hbl:(FY pos e).length=(DP pos e.links).length+(AD e.data.length).length:=by unfold FY;rw[Al]
 rw[hbl] at hfit hln2
 have hhb:FY pos e=DP pos e.links++AD e.data.length:=rfl
 rw[hhb]
 have HPT:=hid (fun (W:World) (hW:Below w.heap.size w W)=>WT W (h.later hW) pos hpos e.links a1 _ c1 (GI hW hl) hR'.1 hbk zC zC)
 have HP:=hid h
 have hdl:=hR'.2
 generalize DP pos e.links=LB at*
 clear h hl hd hR hR' hbl hhb
 go_enter Tryz.func280,Tryz.ntmps280
 go_wp2_with fail
 refine (HER.out _ zA).mono ?_
 rintro r w1 ⟨rfl,hb1⟩
 have B1:=Blk.later (Blk.newAt w 180 #[.slice a1 e.links.length c1,.slice a2 e.data.length c2] rfl) hb1
 obtain⟨x0,x1,l1⟩:=YW B1
 have hbw1:Below w.heap.size w w1:=zA
 have hgl:=HP.out.blk.lt
 have HLT:=hid (fun q (hq:Dm g a q)=>(HP.out.BH hq).2)
 have HB1:=hid B1
 clear B1 hb1
 go_wp2_with fail
 refine (HPT.out _ hbw1).mono ?_
 rintro r w2 ⟨rfl,a3,c3,hp2,ht2,ha2⟩
 have B2:=HB1.out.tch ht2 (fun hf=>zBo)
 obtain⟨y0,y1,l2⟩:=YW B2
 have HV:=hid (CD w2 hp2 e.data.length zC zQ zQ)
 have HT:=hid (And.intro ht2 ha2)
 clear B2 hp2 ht2 ha2 x0 x1
 go_wp2_with fail
 refine HV.out.mono ?_
 rintro r w3 ⟨rfl,hst⟩
 have hn:=AA.later hbw1 (AA.trans (J:=J) HT.out.1 HT.out.2 hst)
 rw[Au] at hn
 have HN:=hid hn
 clear hst hn
 go_wp2
 first | go_end0 | refine Ax (A4 rfl _ _ _) rfl ?_
 exact⟨rfl,HN.out⟩
theorem NM(w:World){g base most:Nat}{J:List UInt8}{a:Option Addr}(h:BG w g base most J a c)(x:Nat)(hx:x<18446744073709551616)(hfit:J.length+(AD x).length≤most)(hlen:J.length+(AD x).length≤100000000000000):
  Calls Tryz.prog 237 #[.pointer (some ⟨g,0,none⟩),.int .u64 x,.bool true] w fun r w'=>r=.returned (.tuple #[])∧AA w g base most (J++AD x) a w':=by
 have HV:=hid (CD w h x hx hfit hlen)
 clear h
 go_enter Tryz.func237,Tryz.ntmps237
 go_wp2_with fail
 refine HV.out.mono ?_
 rintro r w1 ⟨rfl,hst⟩
 have HST:=hid hst
 clear hst
 go_wp2
 first | go_end0 | refine Ax (A4 rfl _ _ _) rfl ?_
 exact⟨rfl,HST.out⟩
theorem LM(w:World){g base most:Nat}{J:List UInt8}{a:Option Addr}(h:BG w g base most J a c)(x:Nat)(hx:epR (x:Int)=true)(hfit:J.length+(AD x).length≤most)(hlen:J.length+(AD x).length≤100000000000000):
  Calls Tryz.prog 162 #[.pointer (some ⟨g,0,none⟩),.int .u64 x] w fun r w'=>r=.returned (.tuple #[])∧AA w g base most (J++AD x) a w':=by
 have hx':=hx
 simp only[epR,Ao] at hx'
 have HR:=hid (ED (x:Int) w)
 rw[hx] at HR
 have HV:=hid (NM w h x zC hfit hlen)
 clear h hx hx'
 go_enter Tryz.func162,Tryz.ntmps162
 go_wp2_with fail
 refine HR.out.mono ?_
 rintro r w1 ⟨rfl,rfl⟩
 go_wp2_with fail
 refine HV.out.mono ?_
 rintro r w1 ⟨rfl,hst⟩
 have HST:=hid hst
 clear hst
 go_wp2
 first | go_end0 | refine Ax (A4 rfl _ _ _) rfl ?_
 exact⟨rfl,HST.out⟩
theorem Lb(w:World){g base most:Nat}{J:List UInt8}{a:Option Addr}(h:BG w g base most J a c)(x:Nat)(hx:poR (x:Int)=true)(hfit:J.length+(AD x).length≤most)(hlen:J.length+(AD x).length≤100000000000000):
  Calls Tryz.prog 261 #[.pointer (some ⟨g,0,none⟩),.int .u64 x] w fun r w'=>r=.returned (.tuple #[])∧AA w g base most (J++AD x) a w':=by
 have hx':=hx
 simp only[poR,Ao] at hx'
 have HR:=hid (Ic (x:Int) w)
 rw[hx] at HR
 have HV:=hid (NM w h x zC hfit hlen)
 clear h hx hx'
 go_enter Tryz.func261,Tryz.ntmps261
 go_wp2_with fail
 refine HR.out.mono ?_
 rintro r w1 ⟨rfl,rfl⟩
 go_wp2_with fail
 refine HV.out.mono ?_
 rintro r w1 ⟨rfl,hst⟩
 have HST:=hid hst
 clear hst
 go_wp2
 first | go_end0 | refine Ax (A4 rfl _ _ _) rfl ?_
 exact⟨rfl,HST.out⟩
theorem Dv(h:Blk w g t #[v0,v1,v2]):w.cell? ⟨g,0,none⟩=some v0∧w.cell? ⟨g,1,none⟩=some v1∧w.cell? ⟨g,2,none⟩=some v2∧w.frozen? ⟨g,0,none⟩=false∧w.frozen? ⟨g,1,none⟩=false∧w.frozen? ⟨g,2,none⟩=false∧g<w.heap.size:=
 ⟨h.cell 0,h.cell 1,h.cell 2,h.free 0,h.free 1,h.free 2,h.lt⟩
theorem QA{m:Nat}(hl:l=[])(hm:m=0)(hc:c≤9223372036854775807):Am.r S w [.slice a m c] l:=by
 subst hl hm
 exact Bv (xs:=[]) rfl (Ar _) hc (.inl rfl)
theorem WG(w:World){g most:Nat}(h:BG w g base most J a c)(k:Int):
  Calls Tryz.prog 164 #[.pointer (some ⟨g,0,none⟩),.int .i64 k] w fun r w'=>r=.returned (.tuple #[])∧Blk w' g 276 #[.int .i64 most,.slice a J.length c,.int .i64 k]∧Tch (·=g) w w':=by
 have HC:=hid (KJ w h)
 have HB:=hid h.blk
 have c2:w.cell? ⟨g,2,none⟩=some (.int .i64 0):=h.blk.cell 2
 have f2:=h.blk.free 2
 have hgl:=h.blk.lt
 clear h
 go_enter Tryz.func164,Tryz.ntmps164
 go_wp2_with fail
 refine HC.out.mono ?_
 rintro r w1 ⟨rfl,rfl⟩
 go_wp2
 first | go_end0 | refine Ax (A4 rfl _ _ _) rfl ?_
 exact⟨rfl,HB.out.set 2 _,Tch.setCell (F:=(·=g)) (p:=⟨g,2,none⟩) (Tch.refl _ _) (fun _=>rfl) _⟩
theorem On(w:World){k:Int}(hk:k≠0)(h:Blk w g 276 #[v0,v1,.int .i64 k]):
  Calls Tryz.prog 165 #[.pointer (some ⟨g,0,none⟩)] w fun r w'=>r=.returned (.tuple #[.slice none 0 0,.int .i64 k])∧w=w':=by
 have HC:Hid (Calls Tryz.prog 235 #[.pointer (some ⟨g,0,none⟩)] w fun r w'=>r=.returned (.int .i64 k)∧w=w'):=hid (by
  have c2:w.cell? ⟨g,2,none⟩=some (.int .i64 k):=h.cell 2
  clear h
  go_enter Tryz.func235,Tryz.ntmps235
  go_wp2
  go_ret
  exact⟨rfl,rfl⟩)
 have d1:(k==(0:Int))=false:=by simp[hk]
 have d2:(k !=(0:Int))=true:=by simp[hk]
 clear h hk
 go_enter Tryz.func165,Tryz.ntmps165
 go_wp2_with fail
 refine HC.out.mono ?_
 rintro r w1 ⟨rfl,rfl⟩
 go_wp2
 go_ret2
 exact⟨rfl,rfl⟩
theorem WJ{size:Nat}{cap:Nat}{cs:Array Value}(h:Blk W g e cs)(hb:base≤g)(hc:cap≤maxLen)(hs:cs.size=cap*size):W.ownsRow base e size (.slice (some ⟨g,0,none⟩) 0 cap) 0 []:=
 ⟨zM,.inr ⟨g,cap,cs,rfl,hb,h,Ar _,hc,by simpa using hs,zM⟩⟩
theorem TR(l:List Entry)(a:Option Addr)(n c:Nat)(w:World)(hl:Br.r (·<w.heap.size) w [.slice a n c] l)(ht:total l≤1000000000000):
  Calls Tryz.prog 281 #[.slice a n c] w fun r w'=>∃v,r=.returned v∧Am.r (fun q=>w.heap.size≤q∧q<w'.heap.size) w' [v] (BM l)∧Below w.heap.size w w':=by
 obtain⟨rfl,hm,_,_⟩:=AL hl
 obtain⟨i0,hi,hz0,hz1,hz2⟩:=A5 FL
 have HT:=hid (Jr l a _ c w hl ht)
 have HL:=hid hl;clear hl
 obtain⟨T,hT⟩:∃T,T=total l:=⟨_,rfl⟩
 have hmk:∀W:World,(Instr.makeSlice 22 (.int .i64 0) (.int .i64 (T:Int))).run Tryz.prog W=.ok (.slice (some ⟨W.heap.size,0,none⟩) 0 T) (W.alloc (.cells (madeCells #[Value.int .u8 0] T) 5)):=fun W=>by
  have:=run_make (P:=Tryz.prog) (w:=W) 22 5 i0 (.int .u8 0) AJ hi hz0 .i64 .i64 0 (T:Int) zC zC (by rw[hz2];omega) zC
  rw[hz1] at this
  simp only[Ex,Int.toNat_zero,E3] at this
  exact this
 have HJ:=hid (DJ l)
 rw[←hT] at HT
 have hTt:=hid hT
 have hTb:T≤1000000000000:=zC
 clear hT
 go_enter Tryz.func281,Tryz.ntmps281
 go_wp2_with fail
 refine HT.out.mono ?_
 rintro r w1 ⟨rfl,hb1⟩
 go_wp2_with fail
 have hbW:Below w1.heap.size w1 (w1.alloc (.cells (madeCells #[Value.int .u8 0] T) 5)):=zA
 have hown0:(w1.alloc (.cells (madeCells #[Value.int .u8 0] T) 5)).ownsRow w.heap.size 5 1 (.slice (some ⟨w1.heap.size,0,none⟩) 0 T) 0 []:=WJ (Blk.newAt _ _ _ rfl) hb1.size zO (by rw[size_madeCells];omega)
 have HOWN0:=hid hown0
 have HBW:=hid hbW
 clear hown0 hbW
 generalize w1.alloc (.cells (madeCells #[Value.int .u8 0] T) 5)=W at*
 go_loopw [3,11] (fun v i wr=>∃k:Nat,k≤l.length∧i=.int .i64 k∧wr.ownsRow w.heap.size 5 1 v (total (l.take k)) (byteCells (BM (l.take k)))∧Below w.heap.size w wr) (fun _ i _=>l.length-(intOf i).toNat)
 case atStart=>exact ⟨0,Ar _,rfl,by simpa [total,BM,byteCells] using HOWN0.out,Aj HBW.out hb1⟩
 case round=>
  obtain⟨k,hk,rfl,hown,hb⟩:=hrel
  obtain⟨av,cv,rfl⟩:=AV hown
  by_cases hlt:k<l.length
  ·obtain⟨b,o,hA,hbb,a1,c1,a2,c2,hc0,hc1,_,hd⟩:=Fj (lift HL.out hb) hlt
   subst hA
   have hbl:b<wr.heap.size:=Dn _ _ hc0
   have hs:=hid (J6 l k hlt)
   have hj:=hid (Rr l k hlt)
   have h1:=Hw l (k+1)
   rw[hs.out,←hTt.out] at h1
   have hbW2:Below wr.heap.size wr (wr.alloc (.cells #[.slice a1 l[k].links.length c1,.slice a2 l[k].data.length c2] 180)):=zA
   have hsrc:=Cm (lift hd hbW2)
   have hone:=Bi l[k].data
   have HO:=hid (Bz hown hbW2)
   have hbz:Below w.heap.size wr (wr.alloc (.cells #[.slice a1 l[k].links.length c1,.slice a2 l[k].data.length c2] 180)):=hbW2.mono hb.size
   generalize l[k].data=D at*
   generalize l[k].links=LK at*
   generalize BM (l.take k)=J at*
   generalize total (l.take k)=t at*
   have HSRC:=hid hsrc;clear hsrc hd
   have HONE:=hid hone;clear hone hown hbW2
   have hbs:=hb.size
   have i1:(k:Int)<(l.length:Int):=zC
   have d1:decide ((k:Int)<(l.length:Int))=true:=Ad i1
   have HBZ:=hid hbz
   clear hbz
   go_wp2_with (at_builtin;go_loud (refine AB rfl _ _ _ rfl w.heap.size 5 i0 (.int .u8 0) 1 1 AJ hi hz0 hz1 hz2 rfl zL (.slice av t cv) t _ rfl HO.out a2 D.length c2 (byteCells D) rfl HSRC.out HONE.out zO zC zI ?_;intro v' w3 hown3 hgrow3 hat3;obtain⟨a3,c3,rfl⟩:=AV hown3;have HO3:=hid hown3;have hb3:Below w.heap.size wr w3:=(Below.grown HBZ.out hgrow3 zI (fun g e=>(HO.out.lt g e).1));clear hown3 hgrow3 hat3))
   have ho3:=HO3.out
   have HO4:Hid (w3.ownsRow w.heap.size 5 1 (.slice a3 (t+D.length) c3) (total (l.take (k+1))) (byteCells (BM (l.take (k+1))))):=hid (by rw[hs.out,hj.out,byteCells,Cv];exact ho3)
   clear ho3 hc0 hc1
   go_roundw
   case rel=>exact ⟨k+1,zC,zT,HO4.out,hb.trans hb3⟩
   case measure=>simp [intOf];omega
  ·obtain rfl:k=l.length:=by omega
   have d1:decide ((l.length:Int)<(l.length:Int))=false:=Ae zC
   rw[Cj] at hown ⊢
   have HV:=hid (CG (DJ l).symm hown)
   clear hown
   go_wp2
   go_ret
   exact⟨_,rfl,HV.out,hb⟩
theorem Jt:∀(l:List Entry) (p:Int) (k:Nat) (h:k<l.length),C5 p l=true→D8 (p+k) l[k]=true
 | [],p,k,h,_=>by simp at h
 | e::l,p,0,h,hR=>by simp only[C5,Ap] at hR;simpa using hR.1
 | e::l,p,k+1,h,hR=>by
  simp only[C5,Ap] at hR
  have:=Jt l (p+1) k ZL hR.2
  rw[Af,show p+((k+1:Nat):Int)=p+1+(k:Int) by omega]
  exact this
theorem Jh:∀(l:List Entry) (p:Int) (k:Nat) (h:k<l.length),BW p (l.take (k+1))=BW p (l.take k)++FY (p+k) l[k]
 | [],p,k,h=>by simp at h
 | e::l,p,0,h=>by simp[BW]
 | e::l,p,k+1,h=>by
  have:=Jh l (p+1) k ZL
  simp only[DH,BW,Af]
  rw[this,show p+((k+1:Nat):Int)=p+1+(k:Int) by omega,Au]
theorem Vo(l:List Entry)(p:Int):∀k,(BW p (l.take k)).length≤(BW p l).length:=by
 intro k
 induction l generalizing p k with
 | nil=>simp
 | cons e l ih=>
  cases k with
  | zero=>simp [BW]
  | succ k=>simp only[DH,BW,Al];have:=ih (p+1) k;omega
structure J0(l:List Entry):Prop where
 len:l.length≤1000
 tot:total l≤10000000
 backs:∀e∈l,∀x∈e.links,x.backs.length≤1000000
theorem J0.fair{l:List Entry}(h:J0 l):Fair l:=⟨by have:=h.tot;omega,by have:=h.len;omega,fun e he x hx=>by have:=h.backs e he x hx;omega⟩
theorem T8(w:World)(b:Batch)(a:Option Addr)(n c:Nat)(h0:0≤b.epoch∧b.epoch≤18446744073709551615)(h1:0≤b.base∧b.base≤18446744073709551615)(hl:Br.r (·<w.heap.size) w [.slice a n c] b.entries)(ht:J0 b.entries):
  Calls Tryz.prog 221 #[.agg #[.int .u64 b.epoch,.int .u64 b.base,.slice a n c]] w fun r w'=>∃M:Nat,r=.returned (.int .i64 (M:Int))∧M≤100000000∧(Bg b=true→40+(AD (total b.entries)).length+total b.entries+(BW b.base b.entries).length≤M)∧Below w.heap.size w w':=by
 obtain⟨rfl,hm,_,_⟩:=AL hl
 have hle:=ht.len
 have hto:=ht.tot
 have HTO:=hid (fun (W:World) (hW:Below w.heap.size w W)=>Jr b.entries a _ c W (lift hl hW) zC)
 have HBS:=hid (fun (W:World)=>JJ (total b.entries) zC W)
 have hvb:=(A1 (total b.entries)).1
 have HBK:=hid ht.backs
 have HRE:=hid (fun (h:Bg b=true) (k:Nat) (hk:k<b.entries.length)=>(by simp only[Bg,Ap] at h;exact⟨Jt b.entries b.base k hk h.2.2.2,by have:=h.2.1;simp only[Fi,Ao] at this;omega⟩:D8 (b.base+k) b.entries[k]=true∧b.base+b.entries.length≤4611686018427387904))
 have HHS:=hid (fun (k:Nat) (hk:k<b.entries.length)=>Jh b.entries b.base k hk)
 have HL:=hid hl
 obtain⟨ep,bs,l⟩:=b
 dsimp only at*
 generalize hRR:Bg ⟨ep,bs,l⟩=R at*
 generalize AD (total l)=VT at*
 generalize total l=T at*
 clear hl ht hRR
 go_enter Tryz.func221,Tryz.ntmps221
 go_wp2_with fail
 refine (HTO.out _ zA).mono ?_
 rintro r w1 ⟨rfl,hb1⟩
 have B1:=Blk.later (Blk.newAt w 48 #[.int .u64 ep,.int .u64 bs,.slice a l.length c] rfl) hb1
 have hbw1:Below w.heap.size w w1:=zA
 clear hb1
 go_wp2_with fail
 refine (HBS.out _).mono ?_
 rintro r w2 ⟨rfl,hb2⟩
 have B2:=B1.later hb2
 have hbw2:=Aj hb2 hbw1
 obtain⟨x0,x1,x2,_,_,_,l2⟩:=Dv B2
 have HB2:=hid B2
 clear B1 hb2 B2
 go_wp2_with fail
 clear x0 x1 x2
 go_loopw [3,14] (fun m i wr=>∃k M:Nat,k≤l.length∧i=.int .i64 k∧m=.int .i64 M∧M≤20000000+1000*k∧Hid (R=true→40+VT.length+T+(BW bs (l.take k)).length≤M)∧Below w2.heap.size w2 wr) (fun _ i _=>l.length-(intOf i).toNat)
 case atStart=>exact ⟨0,40+(VT.length+T),Ar _,rfl,zT,zC,hid (fun _=>by simp[BW];omega),Below.refl _ _⟩
 case round=>
  obtain⟨k,M,hk,rfl,rfl,hM,hMM,hb⟩:=hrel
  have hbw:=Aj hb hbw2
  have B3:=HB2.out.later hb
  obtain⟨x0,x1,x2,_,_,_,l3⟩:=Dv B3
  by_cases hlt:k<l.length
  ·obtain⟨b,o,hA,hbb,a1,c1,a2,c2,y0,y1,hlk,hd⟩:=Fj (lift HL.out hbw) hlt
   subst hA
   have hbl:b<wr.heap.size:=Dn _ _ y0
   have i1:(k:Int)<(l.length:Int):=zC
   have d1:decide ((k:Int)<(l.length:Int))=true:=Ad i1
   have hbk:=HBK.out l[k] (A0 hlt)
   have HHZ:=hid (fun (W:World) (hW:Below wr.heap.size wr W) (pos:Int) (hp:0≤pos∧pos≤18446744073709551615)=>NP W pos hp l[k] a1 a2 _ c1 _ c2 (lift hlk hW) (lift hd hW) hbk)
   have hHN:=hid (fun pos=>Ny pos l[k])
   have hst:=HHS.out k hlt
   have HX:=hid (fun (h:R=true)=>(by
    obtain⟨h1,h2⟩:=HRE.out h k hlt
    refine⟨?_,zC⟩
    unfold JY
    rw[Ag h1]:JY (bs+k) l[k]=(FY (bs+k) l[k]).length∧bs+k≤18446744073709551615))
   have HSTP:Hid (∀m,m=(FY (bs+k) l[k]).length→(BW bs (l.take (k+1))).length=(BW bs (l.take k)).length+m):=hid (fun m e=>by rw[hst,Al,e])
   generalize l[k]=y at*
   clear hst hlk hd hbk
   by_cases hwr:bs+(k:Int)≤18446744073709551615
   ·have HZ2:=hid (fun (W:World) (hW:Below wr.heap.size wr W)=>HHZ.out W hW (bs+k) zC)
    have hn:=hHN.out (bs+k)
    generalize hN:JY (bs+(k:Int)) y=N at*
    have HN:=hid hN
    clear hN
    go_wp2_with fail
    refine (HZ2.out _ zA).mono ?_
    rintro r w5 ⟨rfl,hb5⟩
    have hbw5:Below w2.heap.size w2 w5:=zA
    go_wp2
    go_roundw
    case rel=>
     refine⟨k+1,M+N,zC,zT,zT,zC,hid (fun h=> ?_),hbw5⟩
     have e1:=hMM.out h
     have e2:=HSTP.out N (HX.out h).1
     omega
    case measure=>simp [intOf];omega
   ·obtain⟨p',hp',hpb⟩:∃p':Int,IntKind.u64.wrap (bs+(k:Int))=p'∧0≤p'∧p'≤18446744073709551615:=⟨_,rfl,by simp only[IntKind.wrap_u64];omega⟩
    have HZ2:=hid (fun (W:World) (hW:Below wr.heap.size wr W)=>HHZ.out W hW p' hpb)
    have hn:=hHN.out p'
    generalize JY p' y=N at*
    have HPP:=hid hp'
    have HWR:=hid hwr
    clear hp' hwr
    go_wp2_with fail
    rw[HPP.out]
    refine (HZ2.out _ zA).mono ?_
    rintro r w5 ⟨rfl,hb5⟩
    have hbw5:Below w2.heap.size w2 w5:=zA
    go_wp2
    go_roundw
    case rel=>exact ⟨k+1,M+N,zC,zT,zT,zC,hid (fun h=>absurd (HX.out h).2 (by have:=HWR.out;omega)),hbw5⟩
    case measure=>simp [intOf];omega
  ·obtain rfl:k=l.length:=by omega
   have d1:decide ((l.length:Int)<(l.length:Int))=false:=Ae zC
   have hfin:Hid (R=true→40+VT.length+T+(BW bs l).length≤M):=hid (fun h=>by have:=hMM.out h;rwa [Cj] at this)
   clear x0 x1 x2
   go_wp2
   go_ret
   exact⟨M,rfl,zC,hfin.out,hbw⟩
def DF(w:World)(base:Nat)(v:Value)(L:List UInt8):Prop:=w.ownsRow base 5 1 v L.length (byteCells L)
theorem N2(l l':List UInt8):byteCells l++byteCells l'=byteCells (l++l'):=ZS
theorem DF.app{L:List UInt8}(h:w.ownsRow base 5 1 v (L.length+D.length) (byteCells L++byteCells D)):DF w base v (L++D):=by
 unfold DF
 rw[Al,←N2]
 exact h
theorem DF.low{b b':Nat}{L:List UInt8}(h:DF w b v L)(hb:b'≤b):DF w b' v L:=by
 obtain⟨h1,h2⟩:=h
 refine⟨h1,?_⟩
 rcases h2 with h2 | ⟨g,cap,cur,e1,e2,e3⟩
 ·exact .inl h2
 ·exact .inr ⟨g,cap,cur,e1,zC,e3⟩
theorem DF.read{w:World}{b:Nat}{v:Value}{L:List UInt8}(h:DF w b v L):Am.r (fun q=>b≤q∧q<w.heap.size) w [v] L:=CG rfl h
theorem DF.form{b:Nat}{L:List UInt8}(h:DF w b v L):∃a c,v=.slice a L.length c:=AV h
theorem JU(w:World){most:Nat}(h:BG w g base most J a c):
  Calls Tryz.prog 165 #[.pointer (some ⟨g,0,none⟩)] w fun r w'=>∃v,r=.returned (.tuple #[v,.int .i64 0])∧DF w' w.heap.size v J∧Below w.heap.size w w':=by
 obtain⟨i0,hi,hz0,hz1,hz2⟩:=A5 FL
 have HC:=hid (KJ w h)
 have hB:=CG rfl h.own
 obtain⟨_,hm,_,_⟩:=AL hB
 have HD:=hid (Am.mono hB (S':=(·<w.heap.size)) fun q hq=>hq.2)
 have HONE:=hid (Bi J)
 have c1:w.cell? ⟨g,1,none⟩=some (.slice a J.length c):=h.blk.cell 1
 have hg1:=h.blk.lt
 have hle:=h.le;have hmo:=h.most;have hle14:=h.len
 clear h hB
 go_enter Tryz.func165,Tryz.ntmps165
 go_wp2_with fail
 refine HC.out.mono ?_
 rintro r w0 ⟨rfl,rfl⟩
 go_wp2_with (at_builtin;go_loud (refine AB rfl _ _ _ rfl w.heap.size 5 i0 (.int .u8 0) 1 1 AJ hi hz0 hz1 hz2 rfl zL _ 0 [] rfl (EO _ (As _) rfl) a J.length c (byteCells J) rfl (Cm (lift HD.out zB)) HONE.out zO zC zM ?_;intro v' w1 hown1 hgrow1 hat1;rw[A7,AG] at hown1;obtain⟨a',c',rfl⟩:=AV hown1;have HG:=hid hgrow1;have HO:=hid hown1;clear hgrow1 hown1 hat1))
 have hb1:Below w.heap.size w w1:=Below.grown zB HG.out zM (fun g e=>by
  have e':some w.heap.size=some g:=e
  injection e' with e'
  omega)
 go_ret2
 exact⟨_,rfl,HO.out,hb1⟩
theorem LR(w:World)(e:TypeId)(s:ByteArray):Below w.heap.size w (Lib.bytesWorld w e s):=by
 refine⟨?_,?_,?_,?_,fun j hj=>Lib.bytesWorld_at_old w e s j hj⟩
 ·simp[Lib.bytesWorld,World.freeze,World.alloc,World.drew,-World.alloc_eq,-World.drew_eq]
 ·simp[Lib.bytesWorld,World.freeze,World.alloc,World.drew,-World.alloc_eq,-World.drew_eq]
 ·simp[Lib.bytesWorld,World.freeze,World.alloc,World.drew,-World.alloc_eq,-World.drew_eq]
 ·rw[Lib.bytesWorld_size];omega
theorem NU(w:World)(e:TypeId)(s:ByteArray)(hs:s.size≤1000000):
  Am.r (fun q=>w.heap.size≤q∧q<(Lib.bytesWorld w e s).heap.size) (Lib.bytesWorld w e s) [.slice (some ⟨w.heap.size,0,none⟩) s.size (grownCap w s.size 0 e)] s.data.toList:=by
 have hn:s.size=s.data.toList.length:=zM
 refine Bv (xs:=s.data.toList) (c:=grownCap w s.size 0 e) (by rw[←hn]) (hn ▸ grownCap_ge w s.size 0 e) (grownCap_le_maxLen _ _ _ _ zO) (.inr ⟨w.heap.size,0,rfl,⟨As _,by rw[Lib.bytesWorld_size];omega⟩,fun i x hi=>⟨[.int .u8 (x.toNat:Int)],rfl,fun j v hj=> ?_,rfl⟩⟩)
 have hj0:j=0:=by
  rcases j with _ | j
  ·rfl
  ·simp at hj
 subst hj0
 simp at hj
 subst hj
 have hil:i<s.data.toList.length:=(List.getElem?_eq_some_iff.1 hi).1
 rw[A7,E3,Ed,Lib.bytesWorld_cell w e s i zC,Ih,hi]
 rfl
theorem Q9(w:World){g base most:Nat}{J:List UInt8}{a:Option Addr}(h:BG w g base most J a c)(s:ByteArray)(hs:s.size≤1000000)(D:List UInt8)(hD:s.data.toList=D)(hfit:J.length+D.length≤most)(hlen:J.length+D.length≤100000000000000):
  Calls Tryz.prog 260 #[.pointer (some ⟨g,0,none⟩),.string s] w fun r w'=>r=.returned (.tuple #[])∧AA w g base most (J++D) a w':=by
 have kc:=fun (W:World)=>Lib.run_convert_string_bytes (P:=Tryz.prog) W 9 22 5 s Tryz.underlying9 AJ Tryz.underlying5
 have hb:=LR w 5 s
 have hr:=NU w 5 s hs
 rw[hD] at hr
 have HQ:=hid (Fp (Lib.bytesWorld w 5 s) (h.later hb) D _ _ _ (Am.mono hr fun q hq=>hq.2) hfit hlen)
 have HB:=hid hb
 clear hb hr h hD
 go_enter Tryz.func260,Tryz.ntmps260
 go_wp2_with fail
 refine HQ.out.mono ?_
 rintro r w2 ⟨rfl,hst⟩
 have HST:=hid (AA.later HB.out hst)
 clear hst
 go_wp2
 first | go_end0 | refine Ax (A4 rfl _ _ _) rfl ?_
 exact⟨rfl,HST.out⟩
end Go.Proofs.YtfddhafbhceoaaaGreat
namespace Go.Bs
open Go.RowKit
theorem Ky:∀(k x:Nat),x<128^(k+1)→x<18446744073709551616→(AD x).length≤k+1
 | 0,x,h,_=>by rw[GN ZL];simp
 | k+1,x,h,h2=>by
  by_cases hx:x<128
  ·rw[GN hx];simp
  ·rw[Lm hx h2,Ay]
   have:=Ky k (x/128) (by rw[Nat.div_lt_iff_lt_mul (by decide)];rw[FQ] at h;exact h) zC
   omega
theorem GH{x:Nat}(h:x<9223372036854775808):(AD x).length≤9:=Ky 8 x ZL zC
def CR(v ep bs:Nat):List UInt8:=[84,72,79,76,UInt8.ofNat v]++(AD ep++(if v=1 then AD bs else []))
def Bf(v ep bs:Nat):List UInt8:=CR v ep bs++BE 4 (Cc (CR v ep bs))
end Go.Bs
namespace Go.Proofs.YtfddhafbhceoaaaGreat
open Go.RowKit Go.Bs Go.Maps
variable{B D J J' l:List UInt8}{base c g i n:Nat}{S:Nat → Prop}{a:Option Addr}{s:Rs}{e t:TypeId}{v v0 v1 v2:Value}{W w w' w1:World}
def Ej(w1:World)(g most:Nat)(J:List UInt8)(w:World):Prop:=AA w1 g g most J none w
theorem Ej.new{most:Nat}(h:BG w g g most [] none 0):Ej w g most [] w:=AA.refl h
theorem Ej.step{most:Nat}(h:Ej w1 g most J w)(k:∀a c,BG w g g most J a c→AA w g g most J' a w'):Ej w1 g most J' w':=by
 obtain⟨a,c,h1,h2,h3⟩:=h
 exact AA.trans (J:=J) h2 h3 (k a c h1)
theorem Ej.at{most:Nat}(h:Ej w1 g most J w):∃a c,BG w g g most J a c∧(∀{J':List UInt8} {w':World},AA w g g most J' a w'→Ej w1 g most J' w')∧(∀q,q<w1.heap.size→q≠g→¬Dm g a q):=by
 obtain⟨a,c,h1,h2,h3⟩:=h
 refine⟨a,c,h1,fun k=>AA.trans (J:=J) h2 h3 k,fun q hq hn e=> ?_⟩
 rw[Gy] at e
 rcases e with e | e
 ·exact hn e
 ·rcases h3 with h3 | ⟨q',h3,h4⟩
  ·rw[h3] at e;cases e
  ·rw[h3] at e;have:=AR e;omega
theorem Ej.later{most:Nat}(h:Ej w1 g most J w)(hb:Below w.heap.size w w'):Ej w1 g most J w':=by
 obtain⟨a,c,h1,k,_⟩:=h.at
 exact k ⟨a,c,h1.later hb,Tch.AW hb,.inl rfl⟩
theorem Ej.tch{most:Nat}(h:Ej w1 g most J w):Tch (·=g) w1 w:=by
 obtain⟨a,c,h1,h2,h3⟩:=h
 refine h2.mono fun q _ e=> ?_
 rw[Gy] at e
 rcases e with e | e
 ·exact e
 ·cases e
theorem Ej.blk{most:Nat}(h:Ej w1 g most J w){b:Nat}{t:TypeId}{cs:Array Value}(hB:Blk w1 b t cs)(hn:b≠g):Blk w b t cs:=hB.tch h.tch hn
theorem Ej.below{w0:World}{most:Nat}(h:Ej w1 g most J w)(h0:Below w0.heap.size w0 w1)(hg:w0.heap.size≤g):Below w0.heap.size w0 w:=
 h0.trans (h.tch.Ch h0.size fun b _ e=>zC)
theorem Ri(w:World)(v:Nat)(hv:v<256):Am.r (·<(w.alloc (.cells #[.int .u8 (v:Int)] 5)).heap.size) (w.alloc (.cells #[.int .u8 (v:Int)] 5)) [.slice (some ⟨w.heap.size,0,none⟩) 1 1] [UInt8.ofNat v]:=by
 have h:=Qd w (UInt8.ofNat v)
 rw[←G0 hv] at h
 exact h
theorem UH:(AD 4611686018427387903).length=9:=zF
theorem Mf(w:World):Calls Tryz.prog 219 #[] w fun r w'=>r=.returned (.int .i64 27)∧Below w.heap.size w w':=by
 have HS:=hid (DW 4611686018427387903 zL w)
 rw[UH] at HS
 go_enter Tryz.func219,Tryz.ntmps219
 go_wp2_with fail
 refine HS.out.mono ?_
 rintro r w1 ⟨rfl,hb1⟩
 go_wp2
 go_ret
 exact⟨rfl,hb1⟩
theorem IC(v:Int)(w:World):Calls Tryz.prog 189 #[.int .i64 v] w fun r w'=>r=.returned (.bool (decide (v=1)))∧w=w':=by
 by_cases h:v=1
 ·have d1:(v==1)=true:=by simp[h]
  have hff:Hid (decide (v=1)=true):=hid (Ad h)
  clear h
  go_enter Tryz.func189,Tryz.ntmps189
  go_wp2
  go_ret
  exact⟨by rw[hff.out];first | rfl | simp[d1],rfl⟩
 ·have d1:(v==1)=false:=by simp[h]
  have hff:Hid (decide (v=1)=false):=hid (Ae h)
  clear h
  go_enter Tryz.func189,Tryz.ntmps189
  go_wp2
  go_ret
  exact⟨by rw[hff.out];first | rfl | simp[d1],rfl⟩
theorem KT(v:Nat)(hv:1≤v∧v≤3)(ep bs:Nat)(hep:epR (ep:Int)=true)(hbs:poR (bs:Int)=true)(w:World):
  Calls Tryz.prog 193 #[.agg #[.int .i64 v,.int .u64 ep,.int .u64 bs]] w fun r w'=>∃x,r=.returned x∧Am.r (fun q=>w.heap.size≤q∧q<w'.heap.size) w' [x] (CR v ep bs)∧Below w.heap.size w w':=by
 have hep':=hep
 simp only[epR,Ao] at hep'
 have hbs':=hbs
 simp only[poR,Ao] at hbs'
 have l1:=GH (x:=ep) zC
 have l2:=GH (x:=bs) zC
 have HB:=hid (IC (v:Int))
 have HN:=hid (fun W:World=>Gh W 27 zC)
 have HT:=hid (fun (W:World) (g:Nat) (h:BG W g g 27 [] none 0)=>Q9 W h ⟨#[84,72,79,76]⟩ zL [84,72,79,76] rfl zL zL)
 go_enter Tryz.func193,Tryz.ntmps193
 go_wp2_with fail
 refine (Mf _).mono ?_
 rintro r w1 ⟨rfl,hb1⟩
 go_wp2_with fail
 refine (HN.out w1).mono ?_
 rintro r w2 ⟨rfl,hp2,hb2⟩
 have k2:=Ej.new hp2
 go_wp2_with fail
 refine (HT.out w2 _ hp2).mono ?_
 rintro r w3 ⟨rfl,hs3⟩
 have k3:Ej w2 w1.heap.size 27 [84,72,79,76] w3:=hs3
 have hz:w.heap.size<w1.heap.size:=zAu
 have hz2:=hb2.size
 have hbw2:Below w.heap.size w w2:=Aj hb2 zA
 have hbox:Blk w2 w.heap.size 167 #[.int .i64 v,.int .u64 ep,.int .u64 bs]:=((Blk.new w _ _).later hb1).later hb2
 have HBX:=hid hbox
 have HBW:=hid hbw2
 have K3:=hid k3
 clear hs3 hb1 hb2 hbox hbw2 hp2 k2 k3
 have q3:=K3.out.blk HBX.out zC
 have c0:w3.cell? ⟨w.heap.size,0,none⟩=some (.int .i64 v):=q3.cell 0
 have c1:w3.cell? ⟨w.heap.size,1,none⟩=some (.int .u64 ep):=q3.cell 1
 clear q3
 go_wp2_with fail
 obtain⟨a3,b3,p3,k3,_⟩:=K3.out.at
 have hW:Below w3.heap.size w3 (w3.alloc (.cells #[.int .u8 (v:Int)] 5)):=zB
 have hlit:=Ri w3 v zC
 generalize w3.alloc (.cells #[.int .u8 (v:Int)] 5)=W3 at*
 refine (Fp W3 (p3.later hW) [UInt8.ofNat v] _ 1 1 hlit zM zM).mono ?_
 rintro r w4 ⟨rfl,hs4⟩
 have k4:=k3 (AA.later hW hs4)
 have K4:=hid k4
 clear k3 hs4 hW hlit k4 p3
 have q4:=K4.out.blk HBX.out zC
 have c0':w4.cell? ⟨w.heap.size,0,none⟩=some (.int .i64 v):=q4.cell 0
 have c1':w4.cell? ⟨w.heap.size,1,none⟩=some (.int .u64 ep):=q4.cell 1
 have c2':w4.cell? ⟨w.heap.size,2,none⟩=some (.int .u64 bs):=q4.cell 2
 clear q4
 go_wp2_with fail
 obtain⟨a4,b4,p4,k4,_⟩:=K4.out.at
 refine (LM w4 p4 ep hep zI zI).mono ?_
 rintro r w5 ⟨rfl,hs5⟩
 have K5:=hid (k4 hs5)
 clear k4 hs5 p4
 have q5:=K5.out.blk HBX.out zC
 have x0:w5.cell? ⟨w.heap.size,0,none⟩=some (.int .i64 v):=q5.cell 0
 have x2:w5.cell? ⟨w.heap.size,2,none⟩=some (.int .u64 bs):=q5.cell 2
 clear q5 c0 c1 c0' c1' c2'
 by_cases hv1:v=1
 ·have hdd:decide ((v:Int)=1)=true:=by simp;omega
  rw[hdd] at HB
  have hff:Hid (CR v ep bs=[84,72,79,76]++[UInt8.ofNat v]++AD ep++AD bs):=hid (by unfold CR;rw[Ag hv1];simp)
  clear hdd hv1
  go_wp2_with fail
  refine (HB.out _).mono ?_
  rintro r w6 ⟨rfl,rfl⟩
  go_wp2_with fail
  obtain⟨a5,b5,p5,k5,_⟩:=K5.out.at
  refine (Lb w5 p5 bs hbs zI zI).mono ?_
  rintro r w7 ⟨rfl,hs7⟩
  have K7:=hid (k5 hs7)
  clear k5 hs7 p5
  go_wp2_with fail
  obtain⟨a7,b7,p7,k7,_⟩:=K7.out.at
  refine (Fx w7 p7).mono ?_
  rintro r w8 ⟨x,rfl,hr,hb8⟩
  have hbw:=K7.out.below HBW.out zC
  have HR:=hid hr
  clear hr k7 p7
  go_wp2
  go_ret
  refine⟨_,rfl,?_,Aj hb8 hbw⟩
  rw[hff.out]
  exact Am.mono HR.out fun q hq=>⟨ZD,hq.2⟩
 ·have hdd:decide ((v:Int)=1)=false:=by simp;omega
  rw[hdd] at HB
  have hff:Hid (CR v ep bs=[84,72,79,76]++[UInt8.ofNat v]++AD ep):=hid (by unfold CR;rw[Ai hv1];simp)
  clear hdd hv1
  go_wp2_with fail
  refine (HB.out _).mono ?_
  rintro r w6 ⟨rfl,rfl⟩
  go_wp2_with fail
  obtain⟨a7,b7,p7,k7,_⟩:=K5.out.at
  refine (Fx w5 p7).mono ?_
  rintro r w8 ⟨x,rfl,hr,hb8⟩
  have hbw:=K5.out.below HBW.out zC
  have HR:=hid hr
  clear hr k7 p7
  go_wp2
  go_ret
  refine⟨_,rfl,?_,Aj hb8 hbw⟩
  rw[hff.out]
  exact Am.mono HR.out fun q hq=>⟨ZD,hq.2⟩
def Jj(v:Int)(ep bs:Int):Bool:=decide (1≤v∧v≤3)&&(epR ep&&(poR bs&&(decide (v=1) || decide (bs=0))))
theorem Qh(v ep bs:Int)(h:Jj v ep bs=true)(w:World):
  Calls Tryz.prog 278 #[.agg #[.int .i64 v,.int .u64 ep,.int .u64 bs]] w fun r w'=>r=.returned (.bool true)∧Below w.heap.size w w':=by
 simp only[Jj,Ap,Cg,Ao] at h
 obtain⟨hv,he,hp,hb⟩:=h
 have HE:=hid (ED ep);rw[he] at HE
 have HP:=hid (Ic bs);rw[hp] at HP
 have HB:=hid (IC v)
 have d1:decide (1≤v)=true:=Ad hv.1
 have d2:decide (v≤3)=true:=Ad hv.2
 by_cases hv1:v=1
 ·rw[Ad hv1] at HB
  clear he hp hb hv hv1
  go_enter Tryz.func278,Tryz.ntmps278
  go_wp2_with fail
  refine (HE.out _).mono ?_
  rintro r w1 ⟨rfl,rfl⟩
  go_wp2_with fail
  refine (HP.out _).mono ?_
  rintro r w1 ⟨rfl,rfl⟩
  go_wp2_with fail
  refine (HB.out _).mono ?_
  rintro r w1 ⟨rfl,rfl⟩
  go_wp2
  go_ret
  exact⟨rfl,zB⟩
 ·rw[Ae hv1] at HB
  obtain rfl:bs=0:=zC
  clear he hp hb hv hv1
  go_enter Tryz.func278,Tryz.ntmps278
  go_wp2_with fail
  refine (HE.out _).mono ?_
  rintro r w1 ⟨rfl,rfl⟩
  go_wp2_with fail
  refine (HP.out _).mono ?_
  rintro r w1 ⟨rfl,rfl⟩
  go_wp2_with fail
  refine (HB.out _).mono ?_
  rintro r w1 ⟨rfl,rfl⟩
  go_wp2
  go_ret
  exact⟨rfl,zB⟩
end Go.Proofs.YtfddhafbhceoaaaGreat
namespace Go.Bs
open Go.RowKit
theorem Pb{v ep bs:Nat}(h1:(AD ep).length≤9)(h2:(AD bs).length≤9):(CR v ep bs).length≤23:=by
 unfold CR
 simp only[Al,Ay,AZ]
 split<;>(try simp only[AZ])<;>omega
end Go.Bs
namespace Go.Proofs.YtfddhafbhceoaaaGreat
open Go.RowKit Go.Bs Go.Maps
variable{B D J J' l:List UInt8}{base c g i n:Nat}{S:Nat → Prop}{a:Option Addr}{s:Rs}{e t:TypeId}{v v0 v1 v2:Value}{W w w' w1:World}
def BJ(p:List UInt8):List UInt8:=Ei p++BE 4 (Cc p)
theorem Dk(p:List UInt8):(BJ p).length=(Ei p).length+4:=by simp[BJ,Da]
theorem Tr(w:World){g base most:Nat}{J:List UInt8}{a:Option Addr}(h:BG w g base most J a c)(v ep bs:Nat)(hR:Jj (v:Int) ep bs=true)(hfit:J.length+(Bf v ep bs).length≤most)(hlen:J.length+(Bf v ep bs).length≤100000000000000):
  Calls Tryz.prog 220 #[.pointer (some ⟨g,0,none⟩),.agg #[.int .i64 v,.int .u64 ep,.int .u64 bs]] w fun r w'=>r=.returned (.tuple #[])∧AA w g base most (J++Bf v ep bs) a w':=by
 have HR:=hid (Qh v ep bs hR)
 have hR':=hR
 simp only[Jj,Ap,Cg,Ao] at hR'
 obtain⟨hv,he,hp,_⟩:=hR'
 have HP:=hid (KT v zC ep bs he hp)
 have hb:Hid (Bf v ep bs=CR v ep bs++BE 4 (Cc (CR v ep bs))):=hid rfl
 have HPN:=hid h
 have hl:(Bf v ep bs).length=(CR v ep bs).length+4:=by rw[hb.out];simp[Da]
 rw[hl] at hfit hlen
 have HL:=Gd (CR v ep bs)
 have HC:=hid (fun (W:World) (a:Option Addr) (n c:Nat) h=>Lc (CR v ep bs) a n c W h)
 generalize Bf v ep bs=K at*
 generalize Cc (CR v ep bs)=s at*
 generalize CR v ep bs=D at*
 clear h hR he hp hv hl
 go_enter Tryz.func220,Tryz.ntmps220
 go_wp2_with fail
 refine (HR.out _).mono ?_
 rintro r w1 ⟨rfl,hb1⟩
 have hbx:Blk w1 w.heap.size 167 #[.int .i64 v,.int .u64 ep,.int .u64 bs]:=(Blk.new w _ _).later hb1
 have hbw1:Below w.heap.size w w1:=zB
 have c0:w1.cell? ⟨w.heap.size,0,none⟩=some (.int .i64 v):=hbx.cell 0
 have c1:w1.cell? ⟨w.heap.size,1,none⟩=some (.int .u64 ep):=hbx.cell 1
 have c2:w1.cell? ⟨w.heap.size,2,none⟩=some (.int .u64 bs):=hbx.cell 2
 clear hbx
 go_wp2_with fail
 refine (HP.out _).mono ?_
 rintro r w2 ⟨x,rfl,hr,hb2⟩
 obtain⟨a2,c2,hv2,hr2,_⟩:=AH hr
 simp only[Av,AI] at hv2
 subst hv2
 have hbw2:=Aj hb2 hbw1
 have hP2:=HPN.out.later hbw2
 have HD:=hid hr2
 have hz2:=hbw1.size
 clear hr hr2
 go_wp2_with fail
 refine (Fp w2 hP2 D a2 _ c2 (Am.mono HD.out fun q hq=>hq.2) zC zC).mono ?_
 rintro r w3 ⟨rfl,a3,c3,p3,t3,h3⟩
 have hs3:=t3.size
 have hno:∀q,w.heap.size≤q→¬Dm g a q:=fun q hq hf=>by have:=(HPN.out.BH hf).2;omega
 have HD3:=hid (Am.keep HD.out fun q hq=>t3.block q hq.2 (hno q zC))
 have HST:=hid (fun (J':List UInt8) (W:World) (k:AA w3 g base most J' a3 W)=>AA.later (J':=J') hbw2 (AA.trans (J:=J++D) t3 h3 k))
 have P3:=hid p3
 clear p3 t3 h3 hno hP2
 go_wp2_with fail
 refine (HC.out w3 a2 _ c2 (Am.mono HD3.out fun q hq=>by have:=hq.2;omega)).mono ?_
 rintro r w4 ⟨rfl,hb4⟩
 have e1:(s:Int)%18446744073709551616=s:=zC
 go_wp2_with fail
 refine (Ke w4 (P3.out.later hb4) s zC 4 zC zI zI).mono ?_
 rintro r w5 ⟨rfl,hs5⟩
 have hst:=HST.out _ _ (AA.later hb4 hs5)
 rw[Au,←hb.out] at hst
 have HST2:=hid hst
 clear hst hs5
 go_wp2
 first | go_end0 | refine Ax (A4 rfl _ _ _) rfl ?_
 exact⟨rfl,HST2.out⟩
theorem KU(w:World)(v ep bs:Nat)(hR:Jj (v:Int) ep bs=true):
  Calls Tryz.prog 145 #[.agg #[.int .i64 v,.int .u64 ep,.int .u64 bs]] w fun r w'=>∃x,r=.returned (.tuple #[x,.int .i64 0])∧DF w' w.heap.size x (Bf v ep bs)∧Below w.heap.size w w':=by
 have hR':=hR
 simp only[Jj,epR,poR,Ap,Cg,Ao] at hR'
 obtain⟨hv,he,hp,_⟩:=hR'
 have hl:(Bf v ep bs).length≤27:=by
  have:=Pb (v:=v) (GH (x:=ep) zC) (GH (x:=bs) zC)
  simp only[Bf,Al,Da]
  omega
 have HN:=hid (fun W:World=>Gh W 27 zC)
 have HP:=hid (fun (W:World) (g:Nat) (h:BG W g g 27 [] none 0)=>Tr W h v ep bs hR zBd zI)
 generalize Bf v ep bs=K at*
 clear hR hv he hp
 go_enter Tryz.func145,Tryz.ntmps145
 go_wp2_with fail
 refine (Mf _).mono ?_
 rintro r w1 ⟨rfl,hb1⟩
 go_wp2_with fail
 refine (HN.out w1).mono ?_
 rintro r w2 ⟨rfl,hp2,hb2⟩
 have hbox:=((Blk.new w 167 #[.int .i64 v,.int .u64 ep,.int .u64 bs]).later hb1).later hb2
 have c0:w2.cell? ⟨w.heap.size,0,none⟩=some (.int .i64 v):=hbox.cell 0
 have c1:w2.cell? ⟨w.heap.size,1,none⟩=some (.int .u64 ep):=hbox.cell 1
 have c2:w2.cell? ⟨w.heap.size,2,none⟩=some (.int .u64 bs):=hbox.cell 2
 have hbw2:Below w.heap.size w w2:=Aj hb2 zA
 have hz1:w.heap.size<w1.heap.size:=zAu
 have HQ:=hid (HP.out w2 _ hp2)
 clear hbox hp2
 go_wp2_with fail
 refine HQ.out.mono ?_
 rintro r w3 ⟨rfl,hs3⟩
 have K3:Hid (Ej w2 w1.heap.size 27 K w3):=hid hs3
 clear hs3 HQ
 go_wp2_with fail
 obtain⟨a7,b7,p7,k7,_⟩:=K3.out.at
 refine (JU w3 p7).mono ?_
 rintro r w8 ⟨x,rfl,hr,hb8⟩
 have hbw:=K3.out.below hbw2 zC
 have HR:=hid hr
 clear hr k7 p7
 go_wp2
 go_ret2
 exact⟨_,rfl,HR.out.low hbw.size,Aj hb8 hbw⟩
theorem NC(n:Nat)(hn:n≤100000000000000)(w:World):
  Calls Tryz.prog 113 #[.int .i64 n] w fun r w'=>r=.returned (.int .i64 ((AD n).length+n+4:Nat))∧Below w.heap.size w w':=by
 have HS:=hid (JJ n hn w)
 have hl:=A1 n
 generalize (AD n).length=k at*
 go_enter Tryz.func113,Tryz.ntmps113
 go_wp2_with fail
 refine HS.out.mono ?_
 rintro r w1 ⟨rfl,hb1⟩
 go_wp2
 go_ret
 exact⟨zAg,hb1⟩
theorem GK(w:World){g base most:Nat}{J:List UInt8}{a:Option Addr}(h:BG w g base most J a c)(D:List UInt8)(ad:Option Addr)(nd cd:Nat)
 (hD:Am.r (fun q=>q<w.heap.size∧¬Dm g a q) w [.slice ad nd cd] D) (hm:D.length≤2097152) (hfit:J.length+(BJ D).length≤most) (hlen:J.length+(BJ D).length≤100000000000000):
  Calls Tryz.prog 166 #[.pointer (some ⟨g,0,none⟩),.slice ad nd cd] w fun r w'=>r=.returned (.tuple #[])∧AA w g base most (J++BJ D) a w':=by
 obtain⟨rfl,_,_,_⟩:=AL hD
 rw[Dk] at hfit hlen
 have d1:decide ((2097152:Int)<(D.length:Int))=false:=Ae zC
 have HB:=hid (Sl w h D ad _ cd hD zC zC)
 have HC:=hid (fun (W:World) h=>Lc D ad D.length cd W h)
 have HL:=Gd D
 have hb:Hid (BJ D=Ei D++BE 4 (Cc D)):=hid rfl
 have HD:=hid hD
 generalize BJ D=K at*
 generalize Cc D=s at*
 generalize Ei D=E at*
 clear h hD
 go_enter Tryz.func166,Tryz.ntmps166
 go_wp2_with fail
 refine HB.out.mono ?_
 rintro r w3 ⟨rfl,a3,c3,p3,t3,h3⟩
 have hs3:=t3.size
 have HD3:=hid (Am.keep HD.out fun q hq=>t3.block q hq.1 hq.2)
 have HST:=hid (fun (J':List UInt8) (W:World) (k:AA w3 g base most J' a3 W)=>AA.trans (J:=J++E) t3 h3 k)
 have P3:=hid p3
 clear p3 t3 h3
 go_wp2_with fail
 refine (HC.out w3 (Am.mono HD3.out fun q hq=>ZG)).mono ?_
 rintro r w4 ⟨rfl,hb4⟩
 have e1:(s:Int)%18446744073709551616=s:=zC
 go_wp2_with fail
 refine (Ke w4 (P3.out.later hb4) s zC 4 zC zI zI).mono ?_
 rintro r w5 ⟨rfl,hs5⟩
 have hst:=HST.out _ _ (AA.later hb4 hs5)
 rw[Au,←hb.out] at hst
 have HST2:=hid hst
 clear hst hs5
 go_wp2
 first | go_end0 | refine Ax (A4 rfl _ _ _) rfl ?_
 exact⟨rfl,HST2.out⟩
theorem Mh(w:World)(D:List UInt8)(ad:Option Addr)(nd cd:Nat)(hD:Am.r (·<w.heap.size) w [.slice ad nd cd] D)(hm:D.length≤2097152):
  Calls Tryz.prog 100 #[.slice ad nd cd] w fun r w'=>∃x,r=.returned (.tuple #[x,.int .i64 0])∧DF w' w.heap.size x (BJ D)∧Below w.heap.size w w':=by
 obtain⟨rfl,_,_,_⟩:=AL hD
 have HS:=hid (NC D.length zC w)
 have hvl:=A1 D.length
 have hl:(BJ D).length=(AD D.length).length+D.length+4:=by rw[Dk,Dy]
 have HN:=hid (fun W:World=>Gh W ((AD D.length).length+D.length+4) zC)
 have HP:=hid (fun (W:World) (g:Nat) (h:BG W g g ((AD D.length).length+D.length+4) [] none 0) (h1:Am.r (fun q=>q<W.heap.size∧¬Dm g none q) W [.slice ad D.length cd] D)=>GK W h D ad _ cd h1 hm zI zI)
 have HD:=hid hD
 generalize BJ D=K at*
 generalize (AD D.length).length+D.length+4=M at*
 clear hD
 go_enter Tryz.func100,Tryz.ntmps100
 go_wp2_with fail
 refine HS.out.mono ?_
 rintro r w1 ⟨rfl,hb1⟩
 go_wp2_with fail
 refine (HN.out w1).mono ?_
 rintro r w2 ⟨rfl,hp2,hb2⟩
 have hbw2:Below w.heap.size w w2:=Aj hb2 hb1
 have hz1:=hb1.size
 have hz2:=hb2.size
 have HQ:=hid (HP.out w2 _ hp2 (Am.mono (Am.keep HD.out fun q hq=>hbw2.block q hq) fun q hq=>⟨zC,by rw[Gy];rintro (e | e);omega;cases e⟩))
 clear hp2
 go_wp2_with fail
 refine HQ.out.mono ?_
 rintro r w3 ⟨rfl,hs3⟩
 have K3:Hid (Ej w2 w1.heap.size M K w3):=hid hs3
 clear hs3 HQ
 go_wp2_with fail
 obtain⟨a7,b7,p7,k7,_⟩:=K3.out.at
 refine (JU w3 p7).mono ?_
 rintro r w8 ⟨x,rfl,hr,hb8⟩
 have hbw:=K3.out.below hbw2 zC
 have HR:=hid hr
 clear hr k7 p7
 go_wp2
 go_ret2
 exact⟨_,rfl,HR.out.low hbw.size,Aj hb8 hbw⟩
def EC:List UInt8→Nat
 | []=>0
 | b::l=>b.toNat+256*EC l
theorem Qq:∀l:List UInt8,EC l<256^l.length
 | []=>by decide
 | b::l=>by
  have h1:=Qq l
  have h2:=b.toNat_lt
  simp only[EC,Ay,FQ]
  omega
theorem Pg:∀(l:List UInt8) (b:UInt8),EC (l++[b])=EC l+b.toNat*256^l.length
 | [],b=>by simp[EC]
 | x::l,b=>by
  simp only[DV,EC,Ay,Pg l b,FQ,Nat.mul_add,Cl]
  congr 1
  congr 1
  rw[Lj 256,Nat.mul_assoc]
theorem Jp:∀(n x:Nat),EC (BE n x)=x%256^n
 | 0,x=>by simp[BE,EC,Nat.mod_one]
 | n+1,x=>by
  have h:(UInt8.ofNat (x%256)).toNat=x%256:=by rw[UInt8.toNat_ofNat'];omega
  simp only[BE,EC,h,Jp n (x/256)]
  rw[FQ,Lj (256^n) 256,Nat.mod_mul]
theorem Jo:∀(l:List UInt8),BE l.length (EC l)=l
 | []=>rfl
 | b::l=>by
  have h1:=b.toNat_lt
  have e1:(b.toNat+256*EC l)%256=b.toNat:=zC
  have e2:(b.toNat+256*EC l)/256=EC l:=zC
  simp only[Ay,BE,EC,e1,e2,Jo l]
  rw[UInt8.ofNat_toNat]
theorem X9{X:Nat}(hX:X<256^i)(hi:i≤7)(hc:c<256):bits .or .u64 (X:Int) (IntKind.u64.wrap ((c:Int)*2^(8*i)))=((X+c*256^i:Nat):Int):=by
 have h1:(256:Nat)^i=2^(8*i):=by rw[Nat.pow_mul]
 have h2:(256:Nat)^i≤256^7:=Nat.pow_le_pow_right zL hi
 have h3:(256:Nat)^7=72057594037927936:=zL
 have h4:c*256^i≤255*256^i:=CO _ zC
 have e:(c:Int)*2^(8*i)=((c*256^i:Nat):Int):=by
  rw[h1]
  simp
 rw[e,IntKind.wrap_u64,Int.emod_eq_of_lt zC zC,bits_or_u64_nat _ _ zC zC]
 rw[h1] at hX ⊢
 rw[Nat.or_comm,←Nat.shiftLeft_eq,←Nat.shiftLeft_add_eq_or_of_lt hX,Nat.add_comm]
theorem Jv(w:World){g:Nat}{B:List UInt8}{a:Option Addr}{s:Rs}(h:AS w g B a s)(hB:B.length≤1000000000)(n:Nat)(hn:n≤8):
  Calls Tryz.prog 191 #[.pointer (some ⟨g,0,none⟩),.int .i64 (n:Int)] w fun r w'=>r=.returned (.int .u64 (EC (s.take B n).2:Nat))∧AE w g B a (s.take B n).1 w':=by
 have HT:=hid (KF w h (n:Int) zC zC)
 have hlen:(s.take B n).2.length≤n:=by
  unfold Rs.take
  split
  ·simp;omega
  ·simp
 have hlt:=h.blk.lt
 generalize s.take B (n:Int)=T at*
 obtain⟨s1,L⟩:=T
 dsimp only at*
 have n0:(0:Int)≤(n:Int):=zC
 have n8:(n:Int)≤8:=zC
 clear h
 go_enter Tryz.func191,Tryz.ntmps191
 go_wp2_with fail
 refine HT.out.mono ?_
 rintro r w1 ⟨v,rfl,hv,hst⟩
 obtain⟨a1,c1,hfv,hv2,_⟩:=AH hv
 simp only[Av,AI] at hfv
 subst hfv
 have HV:=hid hv2
 have HST:=hid hst
 clear hv hv2 hst
 go_wp2_with fail
 go_loopw [5,14] (fun x i wr=>∃j:Nat,j≤L.length∧i=.int .i64 j∧x=.int .u64 ((EC (L.take j):Nat):Int)∧w1=wr) (fun _ i _=>L.length-(intOf i).toNat)
 case atStart=>exact ⟨0,Ar _,rfl,rfl,rfl⟩
 case round=>
  obtain⟨j,hj,rfl,rfl,rfl⟩:=hrel
  by_cases hlt2:j<L.length
  ·have d1:decide ((j:Int)<(L.length:Int))=true:=Ad zC
   have i1:(j:Int)<(L.length:Int):=zC
   obtain⟨b,o,rfl,_,hc⟩:=Dg HV.out hlt2
   have hff:=hid (show EC (L.take (j+1))=EC (L.take j)+L[j].toNat*256^j by
    rw[AU hlt2,Pg]
    congr 3
    simp
    omega)
   have hX:EC (L.take j)<256^j:=by
    have:=Qq (L.take j)
    rwa [E8,Nat.min_eq_left hj] at this
   have hb:=L[j].toNat_lt
   have E:=hid (X9 (c:=L[j].toNat) hX zC zC)
   have hXb:EC (L.take j)<18446744073709551616:=An hX (Bb (Nat.pow_le_pow_right zL (show j≤7 by omega)) zL)
   generalize L[j].toNat=y at*
   generalize EC (L.take j)=X at*
   clear hX
   have m0:(0:Int)≤8*(j:Int):=zC
   have m1:8*(j:Int)≤64:=zC
   go_wp2_with fail
   go_roundw
   case rel=>exact ⟨j+1,zC,zT,by rw[E.out,hff.out],by trivial⟩
   case measure=>(simp[intOf];try omega)
  ·obtain rfl:j=L.length:=by omega
   have d1:decide ((L.length:Int)<(L.length:Int))=false:=Ae zC
   rw[Cj]
   go_wp2_with fail
   go_ret
   exact⟨rfl,HST.out⟩
theorem Mi(m:Int)(w:World):Calls Tryz.prog 111 #[.int .i64 m] w fun r w'=>r=.returned (.int .i64 (min m 2097152))∧w=w':=by
 by_cases h:m≤2097152
 ·have e:min m 2097152=m:=by omega
  rw[e]
  clear e
  go_enter Tryz.func111,Tryz.ntmps111
  go_wp2_with fail
  go_ret
  exact⟨rfl,rfl⟩
 ·have e:min m 2097152=2097152:=by omega
  have h':2097152<m:=zC
  rw[e]
  clear e
  go_enter Tryz.func111,Tryz.ntmps111
  go_wp2_with fail
  go_ret
  exact⟨rfl,rfl⟩
theorem Oq{w:World}{g:Nat}{B:List UInt8}{a:Option Addr}{s:Rs}(h:AS w g B a s)(D:List UInt8)(ad:Option Addr)(cd:Nat)(hD:Am.r (·<w.heap.size) w [.slice ad D.length cd] D)(v:Nat)(p:Int):
  Calls Tryz.prog 306 #[.slice ad D.length cd,.int .u64 (v:Int),.func (Fn.func 124) #[.pointer (some ⟨g,0,none⟩)] #[],.int .i64 p] w fun r w'=>r=.returned (.tuple #[])∧AE w g B a (if Cc D=v then s else s.fail 6 p) w':=by
 have HC:=hid (Lc D ad _ cd w hD)
 have hlt:=Gd D
 have HH:=hid h
 clear h hD
 generalize Cc D=q at*
 by_cases hq:q=v
 ·rw[Ag hq]
  subst hq
  have d1:((q:Int) !=(q:Int))=false:=zM
  go_enter Tryz.func306,Tryz.ntmps306
  go_wp2_with fail
  refine HC.out.mono ?_
  rintro r w1 ⟨rfl,hb⟩
  have HST:=hid (AE.later HH.out hb)
  clear hb
  go_wp2_with fail
  first | go_end0 | refine Ax (A4 rfl _ _ _) rfl ?_
  exact⟨rfl,HST.out⟩
 ·rw[Ai hq]
  have d1:((q:Int) !=(v:Int))=true:=zI
  clear hq
  go_enter Tryz.func306,Tryz.ntmps306
  go_wp2_with fail
  refine HC.out.mono ?_
  rintro r w1 ⟨rfl,hb⟩
  have HST:=hid (AE.later HH.out hb)
  have HF:=hid (Bx w1 HST.out.1 6 p zC)
  clear hb
  go_wp2_with fail
  refine HF.out.mono ?_
  rintro r w2 ⟨rfl,hst⟩
  have HS2:=hid (AE.trans HST.out.2 hst)
  clear hst
  go_wp2_with fail
  first | go_end0 | refine Ax (A4 rfl _ _ _) rfl ?_
  exact⟨rfl,HS2.out⟩
def Rs.frame(B:List UInt8)(s:Rs)(m:Int):Rs × List UInt8:=
 let b:=s.Ct B (min m 2097152)
 let f:=b.1.take B 4
 let r:=if Cc b.2=EC f.2 then f.1 else f.1.fail 6 b.1.p
 (r,if r.k=0 then b.2 else [])
theorem Tu(w:World){g:Nat}{B:List UInt8}{a:Option Addr}{s:Rs}(h:AS w g B a s)(hB:B.length≤1000000000)(m:Int)(hm: -9223372036854775808≤m∧m≤9223372036854775807):
  Calls Tryz.prog 246 #[.pointer (some ⟨g,0,none⟩),.int .i64 m] w fun r w'=>∃v,r=.returned v∧Am.r (fun q=>w.heap.size≤q∧q<w'.heap.size) w' [v] (s.frame B m).2∧AE w g B a (s.frame B m).1 w':=by
 have hlt:=h.blk.lt
 have HBD:=hid (Mi m w)
 have HBL:=hid (Pz w h zC (min m 2097152) zC)
 unfold Rs.frame
 dsimp only
 generalize s.Ct B (min m 2097152)=P at*
 obtain⟨s1,D⟩:=P
 dsimp only at*
 have HFX:=hid (fun (W:World) (hW:AS W g B a s1)=>(by have:=Jv W hW hB 4 zC;exact this:Calls Tryz.prog 191 #[.pointer (some ⟨g,0,none⟩),.int .i64 4] W fun r w'=>r=.returned (.int .u64 ((EC (s1.take B 4).2:Nat):Int))∧AE W g B a (s1.take B 4).1 w'))
 have HAT:=hid (fun (W:World) (hW:AS W g B a s1)=>Cd W hW)
 generalize s1.take B 4=T at*
 obtain⟨s2,F⟩:=T
 dsimp only at*
 generalize EC F=v at*
 have HCK:=hid (fun (W:World) (hW:AS W g B a s2) (ad:Option Addr) (cd:Nat) (hD:Am.r (·<W.heap.size) W [.slice ad D.length cd] D)=>Oq hW D ad cd hD v (s1.p:Int))
 generalize (if Cc D=v then s2 else s2.fail 6 (s1.p:Int))=s3 at*
 generalize hRS:(if s3.k=0 then D else [])=RES
 have HRS:=hid hRS
 generalize min m 2097152=mm at*
 clear h hRS
 by_cases hk:s3.k=0
 ·have HG:=hid (fun (V:World) (hV:AS V g B a s3)=>(by have:=AK V hV;rw[Ad hk] at this;exact this:Calls Tryz.prog 112 #[.pointer (some ⟨g,0,none⟩)] V fun r w'=>r=.returned (.bool true)∧Below V.heap.size V w'))
  have HR2:Hid (RES=D):=hid (by rw[←HRS.out];exact Ag hk)
  clear hk
  go_enter Tryz.func246,Tryz.ntmps246
  go_wp2_with fail
  refine HBD.out.mono ?_
  rintro r w0 ⟨rfl,rfl⟩
  go_wp2_with fail
  refine HBL.out.mono ?_
  rintro r w1 ⟨v1,rfl,hv1,hst1⟩
  obtain⟨ad,cd,hfv,hv2,_⟩:=AH hv1
  simp only[Av,AI] at hfv
  subst hfv
  have HV1:=hid hv2
  have HS1:=hid hst1
  have hz1:=hst1.2.size
  clear hv1 hv2 hst1
  go_wp2_with fail
  refine (HAT.out w1 HS1.out.1).mono ?_
  rintro r w1' ⟨rfl,rfl⟩
  go_wp2_with fail
  refine (HFX.out w1 HS1.out.1).mono ?_
  rintro r w3 ⟨rfl,hst3⟩
  have HV3:=hid (Am.mono (Am.keep HV1.out (w':=w3) fun q hq=>hst3.2.block q hq.2 ZG) (S':=fun q=>w.heap.size≤q∧q<w3.heap.size) fun q hq=>⟨hq.1,An hq.2 hst3.2.size⟩)
  have HS3:=hid (AE.trans HS1.out.2 hst3)
  clear hst3
  go_wp2_with fail
  refine (HCK.out w3 HS3.out.1 ad cd (Am.mono HV3.out fun q hq=>hq.2)).mono ?_
  rintro r w4 ⟨rfl,hst4⟩
  have HV4:=hid (Am.mono (Am.keep HV3.out (w':=w4) fun q hq=>hst4.2.block q hq.2 ZG) (S':=fun q=>w.heap.size≤q∧q<w4.heap.size) fun q hq=>⟨hq.1,An hq.2 hst4.2.size⟩)
  have HS4:=hid (AE.trans HS3.out.2 hst4)
  clear hst4
  go_wp2_with fail
  refine (HG.out w4 HS4.out.1).mono ?_
  rintro r w5 ⟨rfl,hb5⟩
  have HSE:=hid (HS4.out.then hb5)
  have HVF:=hid (show Am.r (fun q=>w.heap.size≤q∧q<w5.heap.size) w5 [.slice ad D.length cd] D from Am.mono (Am.keep HV4.out fun q hq=>hb5.block q hq.2) fun q hq=>⟨hq.1,An hq.2 hb5.size⟩)
  clear hb5
  go_wp2_with fail
  go_ret
  rw[HR2.out]
  exact⟨_,rfl,HVF.out,HSE.out⟩
 ·have HG:=hid (fun (V:World) (hV:AS V g B a s3)=>(by have:=AK V hV;rw[Ae hk] at this;exact this:Calls Tryz.prog 112 #[.pointer (some ⟨g,0,none⟩)] V fun r w'=>r=.returned (.bool false)∧Below V.heap.size V w'))
  have HR2:Hid (RES=[]):=hid (by rw[←HRS.out];exact Ai hk)
  clear hk
  go_enter Tryz.func246,Tryz.ntmps246
  go_wp2_with fail
  refine HBD.out.mono ?_
  rintro r w0 ⟨rfl,rfl⟩
  go_wp2_with fail
  refine HBL.out.mono ?_
  rintro r w1 ⟨v1,rfl,hv1,hst1⟩
  obtain⟨ad,cd,hfv,hv2,_⟩:=AH hv1
  simp only[Av,AI] at hfv
  subst hfv
  have HV1:=hid hv2
  have HS1:=hid hst1
  have hz1:=hst1.2.size
  clear hv1 hv2 hst1
  go_wp2_with fail
  refine (HAT.out w1 HS1.out.1).mono ?_
  rintro r w1' ⟨rfl,rfl⟩
  go_wp2_with fail
  refine (HFX.out w1 HS1.out.1).mono ?_
  rintro r w3 ⟨rfl,hst3⟩
  have HV3:=hid (Am.mono (Am.keep HV1.out (w':=w3) fun q hq=>hst3.2.block q hq.2 ZG) (S':=fun q=>w.heap.size≤q∧q<w3.heap.size) fun q hq=>⟨hq.1,An hq.2 hst3.2.size⟩)
  have HS3:=hid (AE.trans HS1.out.2 hst3)
  clear hst3
  go_wp2_with fail
  refine (HCK.out w3 HS3.out.1 ad cd (Am.mono HV3.out fun q hq=>hq.2)).mono ?_
  rintro r w4 ⟨rfl,hst4⟩
  have HV4:=hid (Am.mono (Am.keep HV3.out (w':=w4) fun q hq=>hst4.2.block q hq.2 ZG) (S':=fun q=>w.heap.size≤q∧q<w4.heap.size) fun q hq=>⟨hq.1,An hq.2 hst4.2.size⟩)
  have HS4:=hid (AE.trans HS3.out.2 hst4)
  clear hst4
  go_wp2_with fail
  refine (HG.out w4 HS4.out.1).mono ?_
  rintro r w5 ⟨rfl,hb5⟩
  have HSE:=hid (HS4.out.then hb5)
  clear hb5
  go_wp2_with fail
  go_ret
  rw[HR2.out]
  exact⟨_,rfl,Bv (xs:=[]) rfl (As _) (Ar _) (.inl rfl),HSE.out⟩
theorem Vt(w:World)(B:List UInt8)(a:Option Addr)(n c:Nat)(hl:Am.r (·<w.heap.size) w [.slice a n c] B)(hB:B.length≤1000000000)(most:Int)(hm: -9223372036854775808≤most∧most≤9223372036854775807):
  Calls Tryz.prog 176 #[.slice a n c,.int .i64 most] w fun r w'=>∃v,r=.returned (.tuple #[v,.int .i64 ((Qk (((⟨0,0,0⟩:Rs).frame B most))).2.1:Int),.agg #[.int .i64 (Qk (((⟨0,0,0⟩:Rs).frame B most))).2.2.1,.int .i64 (Qk (((⟨0,0,0⟩:Rs).frame B most))).2.2.2]])∧Am.r (fun q=>w.heap.size≤q∧q<w'.heap.size) w' [v] (Qk (((⟨0,0,0⟩:Rs).frame B most))).1∧Below w.heap.size w w':=by
 obtain⟨rfl,hmx,hcc,hcm⟩:=AL hl
 have HN:=hid (Lo (w.alloc (.cells #[.int .i64 0,.int .i64 0] 65)) B a _ c (lift hl zA))
 have hLS:=hid (fun (W:World) (h:AS W (w.heap.size+1) B a ⟨0,0,0⟩)=>Tu W h hB most hm)
 unfold Qk
 generalize ((⟨0,0,0⟩:Rs).frame B most)=L at*
 obtain⟨s1,D⟩:=L
 dsimp only at*
 clear hl
 by_cases hk:s1.k=0
 ·rw[Ag hk]
  have d1:decide (s1.k=0)=true:=Ad hk
  clear hk
  dsimp only
  go_enter Tryz.func176,Tryz.ntmps176
  go_wp2_with fail
  refine HN.out.mono ?_
  rintro r w1 ⟨rfl,hrd,hb1⟩
  have F1:Blk w1 w.heap.size 65 #[.int .i64 0,.int .i64 0]:=Blk.later zD hb1
  have hbw1:Below w.heap.size w w1:=zA
  have hgl:=hrd.blk.lt
  simp at hrd hgl
  have HRD:=hid hrd
  have HLS:=hid (hLS.out w1 hrd)
  clear hrd hb1
  go_wp2_with fail
  refine HLS.out.mono ?_
  rintro r w2 ⟨v,rfl,hr,hst⟩
  obtain⟨aD,cD,hv,hr2,_⟩:=AH hr
  simp only[Av,AI] at hv
  subst hv
  have HST:=hid hst
  have HR:=hid hr2
  have hs2:=hst.size
  have F2:=F1.tch hst.2 zC
  have hbw2:Below w.heap.size w w2:=hbw1.trans (hst.below zC zC)
  have HFA:=hid (H7 w2 hst.1)
  clear hr hr2 hst F1
  go_wp2_with fail
  refine HFA.out.mono ?_
  rintro r w3 ⟨rfl,hb3⟩
  have F3:=F2.later hb3
  have hG:=BK (w3.alloc (.cells #[.int .i64 s1.k,.int .i64 s1.f] 65)) s1.k s1.f
  rw[d1] at hG
  have HG:=hid hG
  have hbw3:=Aj hb3 hbw2
  clear hG d1
  go_wp2_with fail
  refine HG.out.mono ?_
  rintro r w4 ⟨rfl,hb4⟩
  have F4:=(F3.alloc _).later hb4
  obtain⟨y0,y1,g0,g1,l1⟩:=Bd F4
  have hb24:Below w2.heap.size w2 w4:=zA
  have hbw4:=Aj hb24 hbw2
  have HST4:=hid (HST.out.then hb24)
  have hs4:=hb24.size
  have HAT:=hid (Cd w4 HST4.out.1)
  have HRK:=hid (Am.mono (S':=fun q=>w.heap.size+1<q∧q<w4.heap.size) (Am.keep HR.out fun q hq=>hb24.block q hq.2) fun q hq=>⟨zC,zC⟩)
  clear F2 F3 F4
  go_wp2_with fail
  refine HAT.out.mono ?_
  rintro r w4' ⟨rfl,rfl⟩
  go_wp2
  refine Ax (v:=.tuple #[.slice aD D.length cD,.int .i64 (s1.p:Int),.agg #[.int .i64 0,.int .i64 0]]) zBw rfl ⟨_,rfl,?_,zA⟩
  refine Am.mono (Am.keep HRK.out fun q hq=> ?_) fun q hq=>⟨zC,by simp[World.setCell];exact hq.2⟩
  repeat (rw[At _ _ _ _ zH])
 ·rw[Ai hk]
  have d1:decide (s1.k=0)=false:=Ae hk
  clear hk
  dsimp only
  go_enter Tryz.func176,Tryz.ntmps176
  go_wp2_with fail
  refine HN.out.mono ?_
  rintro r w1 ⟨rfl,hrd,hb1⟩
  have F1:Blk w1 w.heap.size 65 #[.int .i64 0,.int .i64 0]:=Blk.later zD hb1
  have hbw1:Below w.heap.size w w1:=zA
  have hgl:=hrd.blk.lt
  simp at hrd hgl
  have HRD:=hid hrd
  have HLS:=hid (hLS.out w1 hrd)
  clear hrd hb1
  go_wp2_with fail
  refine HLS.out.mono ?_
  rintro r w2 ⟨v,rfl,hr,hst⟩
  obtain⟨aD,cD,hv,hr2,_⟩:=AH hr
  simp only[Av,AI] at hv
  subst hv
  have HST:=hid hst
  have HR:=hid hr2
  have hs2:=hst.size
  have F2:=F1.tch hst.2 zC
  have hbw2:Below w.heap.size w w2:=hbw1.trans (hst.below zC zC)
  have HFA:=hid (H7 w2 hst.1)
  clear hr hr2 hst F1
  go_wp2_with fail
  refine HFA.out.mono ?_
  rintro r w3 ⟨rfl,hb3⟩
  have F3:=F2.later hb3
  have hG:=BK (w3.alloc (.cells #[.int .i64 s1.k,.int .i64 s1.f] 65)) s1.k s1.f
  rw[d1] at hG
  have HG:=hid hG
  have hbw3:=Aj hb3 hbw2
  clear hG d1
  go_wp2_with fail
  refine HG.out.mono ?_
  rintro r w4 ⟨rfl,hb4⟩
  have F4:=(F3.alloc _).later hb4
  obtain⟨y0,y1,g0,g1,l1⟩:=Bd F4
  have hb24:Below w2.heap.size w2 w4:=zA
  have hbw4:=Aj hb24 hbw2
  have HST4:=hid (HST.out.then hb24)
  have hs4:=hb24.size
  obtain⟨z0,z1,e0,e1,l2⟩:=Bd (Blk.later (Blk.newAt w3 _ _ rfl) hb4)
  clear F2 F3 F4
  go_wp2_with fail
  go_region
  all_goals
   go_wp2
   refine Ax (v:=.tuple #[.slice none 0 0,.int .i64 0,.agg #[.int .i64 s1.k,.int .i64 s1.f]]) zBw rfl ⟨_,rfl,BR rfl rfl zC,zA⟩
theorem Rs.Nj(h:s.ok B.length)(most:Int):(s.loose B most).1.ok B.length:=by
 have hb:=Rs.Hp (B:=B) (Rs.Eo h (m:=min most 1048576))
 unfold Rs.loose
 split
 ·split
  ·split
   ·exact Rs.Gf hb _
   ·exact Rs.Gf hb _
  ·split
   ·split
    ·exact Rs.Wj hb _
    ·exact Rs.Wj hb _
   ·exact Rs.Ck hb zC
 ·exact hb
end Go.Proofs.YtfddhafbhceoaaaGreat
