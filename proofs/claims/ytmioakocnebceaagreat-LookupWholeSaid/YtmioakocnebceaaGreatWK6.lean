/- Mini: Needed by lookupWhole_walk, part 6: texts put together by shake.py; no condition. -/
import Derived.Test.YtmioakocnebceaaGreatWK5
import Derived.Test.YtmioakocnebceaaGreatWK1
import Derived.Laws.MakeOwn
import Derived.Test.YtmioakocnebceaaGreatWK4
import Derived.Lib.ConvBytes
import Derived.Laws.AppendOwn
import Derived.Test.YtmioakocnebceaaGreatWK3
set_option linter.unusedVariables false
set_option linter.unusedSimpArgs false
set_option maxRecDepth 100000
set_option maxHeartbeats 6400000
namespace Go.Proofs.YtmioakocnebceaaGreat
open Go.RowKit Go.Bs Go.Maps
theorem rBytesless{W W':World}{cs:List Value}{l:List Int}(h:rU64s.r (fun q=>W.heap.size≤q∧q<W'.heap.size) W' cs l):rU64s.r (·<W'.heap.size) W' cs l:=rU64s.mono h fun q hq=>hq.2
def StepsOwn(below:Int)(l:List Int)(w:World)(e:Ending)(w':World):Prop:=
 ∃v,e=.returned (.tuple #[v,.bool (fallsB below l)])∧rU64s.r (fun q=>w.heap.size≤q∧q<w'.heap.size) w' [v] (if fallsB below l then stepsL below l else [])∧Below w.heap.size w w'
theorem steps_own(below:Int)(l:List Int)(a:Option Addr)(n c:Nat)(w:World)(hb0:0≤below∧below≤18446744073709551615)(hl:rU64s.r (·<w.heap.size) w [.slice a n c] l)(hlen:l.length≤1000000000000):
  Calls Tryz.prog 377 #[.int .u64 below,.slice a n c] w (StepsOwn below l w):=by
 obtain⟨rfl,hm,_,_⟩:=sl_len hl
 obtain⟨i0,hi,hz0,hz1,hz2⟩:=info_parts infoU
 have HL:=hid hl;clear hl
 go_enter Tryz.func377,Tryz.ntmps377
 go_wp2
 go_loopw [0,6,11] (fun b v i wr=>∃k:Nat,k≤l.length∧i=.int .i64 k∧b=.int .u64 (ahead below l k)∧0≤ahead below l k∧ahead below l k≤18446744073709551615∧Hid (fallsB below l=fallsB (ahead below l k) (l.drop k))∧
   (∃xs:List Int,Hid (xs.length=k∧(∀x∈xs,0≤x∧x≤18446744073709551615)∧stepsL below l=xs++stepsL (ahead below l k) (l.drop k))∧wr.ownsRow w.heap.size 25 1 v k (xs.map (Value.int .u64)))∧Below w.heap.size w wr) (fun _ _ i _=>l.length-(intOf i).toNat)
 case atStart=>exact ⟨0,Nat.zero_le _,rfl,rfl,hb0.1,hb0.2,hid rfl,⟨[],hid ⟨rfl,by simp,rfl⟩,⟨rfl,.inl ⟨rfl,rfl⟩⟩⟩,Below.refl _ _⟩
 case round=>
  obtain⟨k,hk,rfl,rfl,ha0,ha1,hf,⟨xs,hxs,hown⟩,hb⟩:=hrel
  by_cases hlt:k<l.length
  ·obtain⟨b,o,hA,hbb,hc,hx0,hx1⟩:=u64_at HL.out hlt
   subst hA
   have q:=(hb.cell (p:=⟨b,o+k,none⟩) hbb).trans hc
   clear hc
   have hd:=hid (List.drop_eq_getElem_cons hlt)
   have hsu:=hid (ahead_succ below l k hlt)
   generalize hlk:l[k]=x at*
   clear hlk
   generalize ahead below l k=p at*
   by_cases hge:p≤x
   ·have hff:Hid (fallsB below l=false):=by
     rw[hf.out,hd.out];exact hid (by simp[fallsB];omega)
    go_wp2
    go_ret2
    exact⟨.slice none 0 0,by rw[hff.out];rfl,by rw[hff.out];exact rSl_mk rfl (Nat.le_refl _) (Nat.zero_le _) (.inl rfl),hb⟩
   ·have hbs:=hb.size
    have w1:0≤p-x:=by omega
    have w2:0≤p-x-1:=by omega
    go_wp2_with (at_builtin;refine wpList_append_lies _ rfl _ _ _ rfl w.heap.size 25 i0 (.int .u64 0) 1 8 Tryz.underlying49 hi hz0 hz1 hz2 rfl (by decide) _ k _ rfl (hown.alloc _) ⟨wr.heap.size,0,none⟩ 1 1 [.int .u64 (p-x-1)] rfl rfl (World.news_of_block (Blk.new _ _ _)) (by simp[Value.oneCell']) (by decide) (by simp only[maxLen];omega) (by omega) (by simp;omega) _ rfl ?_;intro g1 cap1 w1' hown1 hgrow1 hat1 hlt1)
    go_roundw
    case rel=>
     refine⟨k+1,by omega,by go_num,by rw[hsu.out],by rw[hsu.out];exact hx0,by rw[hsu.out];exact hx1,?_,⟨xs++[p-x-1],?_,?_⟩,?_⟩
     ·rw[hf.out,hd.out,hsu.out]
      exact hid (by simp only[fallsB];rw[decide_eq_true (by omega)];rfl)
     ·refine hid ⟨by simp[hxs.out.1],?_,?_⟩
      ·intro y hy
       rw[List.mem_append,List.mem_singleton] at hy
       rcases hy with hy | rfl
       ·exact hxs.out.2.1 y hy
       ·omega
      ·rw[hsu.out,hxs.out.2.2,hd.out]
       simp[stepsL]
     ·rw[List.map_append];exact hown1
     ·refine Below.grown ?_ hgrow1 (by simp;omega) (fun g e=>(hown.lt g e).1)
      exact hb.alloc hbs _
    case measure=>simp [intOf];omega
  ·obtain rfl:k=l.length:=by omega
   have hff:Hid (fallsB below l=true):=by
    rw[hf.out,List.drop_length];exact hid rfl
   have hxl:=hxs.out.1
   have hst:Hid (stepsL below l=xs):=hid (by rw[hxs.out.2.2,List.drop_length];simp[stepsL])
   have hv:rU64s.r (fun q=>w.heap.size≤q∧q<wr.heap.size) wr [u6] xs:=own_ints64 hxs.out.2.1 hxl.symm hown
   have HV:=hid hv;clear hv hxl
   go_wp2
   go_ret2
   exact⟨u6,by rw[hff.out];rfl,by rw[hff.out,if_pos rfl,hst.out];exact HV.out,hb⟩
theorem stepsL_bounds:∀(l:List Int) (p:Int),fallsB p l=true→p≤18446744073709551615→(∀x∈l,0≤x)→∀y∈stepsL p l,0≤y∧y≤18446744073709551615
 | [],p,_,_,_,y,hy=>by simp[stepsL] at hy
 | x::l,p,hf,hp,hx,y,hy=>by
  simp only[fallsB,Bool.and_eq_true,decide_eq_true_eq] at hf
  have h0:=hx x (by simp)
  simp only[stepsL,List.mem_cons] at hy
  rcases hy with rfl | hy
  ·omega
  ·exact stepsL_bounds l x hf.2 (by omega) (fun z hz=>hx z (by simp[hz])) y hy
theorem delta_put(w:World){g base most:Nat}{J:List UInt8}{a:Option Addr}{c:Nat}(h:PenAt w g base most J a c)(pos:Int)(hpos:0≤pos∧pos≤18446744073709551615)(l:List Int)(al:Option Addr)(nl cl:Nat)
  (hl:rU64s.r (·<w.heap.size) w [.slice al nl cl] l) (hf:fallsB pos l=true) (hlen:l.length≤1000000) (hfit:J.length+(deltaB pos l).length≤most) (hln2:J.length+(deltaB pos l).length≤100000000000000):
  Calls Tryz.prog 325 #[.pointer (some ⟨g,0,none⟩),.int .u64 pos,.slice al nl cl] w fun r w'=>r=.returned (.tuple #[])∧PenStep w g base most (J++deltaB pos l) a w':=by
 obtain⟨rfl,hm,_,_⟩:=sl_len hl
 have HS:=hid (steps_own pos l al _ cl w hpos hl (by omega))
 have hlt:=h.len
 have hsl:=stepsL_len pos l
 have hnb:=numsB_len (stepsL pos l)
 have hxs:=u64s_bounds hl
 have hsb:=hid (stepsL_bounds l pos hf hpos.2 (fun x hx=>(hxs x hx).1))
 have hvl:=varB_len l.length
 have hdl:(deltaB pos l).length=(varB l.length).length+(numsB (stepsL pos l)).length:=by unfold deltaB;rw[List.length_append]
 rw[hdl] at hfit hln2
 unfold StepsOwn at HS
 rw[hf] at HS
 simp only[if_true] at HS
 unfold deltaB
 have HP:=hid h
 have HMO:=hid (fun k=>numsB_take_le (stepsL pos l) k)
 have HNS:=hid (fun (k:Nat) (h:k<(stepsL pos l).length)=>numsB_step (stepsL pos l) k h)
 generalize stepsL pos l=T at*
 generalize hL:l.length=L at*
 have hLL:=hid hL
 clear h hl hf hxs hdl hL
 go_enter Tryz.func325,Tryz.ntmps325
 go_wp2_with fail
 refine HS.out.mono ?_
 rintro r w1 ⟨v,rfl,hr,hb1⟩
 obtain⟨a1,c1,hv,hr2,_⟩:=sl_form hr
 simp only[List.cons.injEq,and_true] at hv
 subst hv
 rw[hsl] at hr2 ⊢
 have HR:=hid (pen_new_data HP.out hr2)
 have HP1:=hid (HP.out.later hb1)
 have HV:=hid (varint_put w1 HP1.out L (by omega) (by omega) (by omega))
 clear hr hr2
 go_wp2_with fail
 refine HV.out.mono ?_
 rintro r w2 ⟨rfl,hst⟩
 have HST:=hid hst
 clear hst
 have hz1:=hb1.size
 go_wp2_with fail
 go_loopw [27] (fun i wr=>∃k:Nat,k≤L∧i=.int .i64 k∧Hid (PenStep w1 g base most (J++varB L++numsB (T.take k)) a wr)) (fun i _=>L-(intOf i).toNat)
 case atStart=>exact ⟨0,Nat.zero_le _,rfl,hid (by simpa [numsB] using HST.out)⟩
 case round=>
  obtain⟨k,hk,rfl,hp⟩:=hrel
  obtain⟨a3,c3,hp3,ht3,ha3⟩:=hp.out
  rcases Nat.lt_or_ge k L with hlt | hge
  ·have hd3:=pen_data ht3 ha3 HR.out
   have hkT:k<T.length:=by omega
   obtain⟨b,o,hA,hbb,hc,hx0,hx1⟩:=u64_at hd3 hkT
   subst hA
   have hst:=HNS.out k hkT
   have hfk:=HMO.out (k+1)
   rw[hst,List.length_append] at hfk
   have HSK:=hid hst
   have hvk:=(varB_len T[k].toNat).1
   have hJ3:=hp3.len
   simp only[List.length_append] at hJ3
   have hV:=varint_put wr hp3 T[k].toNat (by omega) (by simp only[List.length_append];omega) (by simp only[List.length_append];omega)
   rw[toNat_cast hx0,List.append_assoc (J++varB L),←hst] at hV
   have HV3:=hid hV
   have HT3:=hid (And.intro ht3 ha3)
   have i1:(k:Int)<(L:Int):=by omega
   have d1:decide ((k:Int)<(L:Int))=true:=decide_eq_true i1
   clear hV hd3 hst hp3 ht3 ha3 hp hfk hvk hJ3
   generalize T[k]=y at*
   go_wp2_with fail
   refine HV3.out.mono ?_
   rintro r w5 ⟨rfl,hst5⟩
   have HN:=hid (PenStep.trans (J:=J) HT3.out.1 HT3.out.2 hst5)
   clear hst5
   go_wp2
   go_roundw
   case rel=>exact ⟨k+1,by omega,by go_num,HN⟩
   case measure=>simp [intOf];omega
  ·obtain rfl:k=L:=by omega
   have d1:decide ((k:Int)<(k:Int))=false:=decide_eq_false (by omega)
   rw[List.take_of_length_le (by omega)] at hp
   have HN:=hid (PenStep.later hb1 hp.out)
   rw[List.append_assoc] at HN
   clear hp hp3 ht3 ha3
   go_wp2
   first | go_end0 | refine bodyPost_ret (results_none rfl _ _ _) rfl ?_
   exact⟨rfl,HN.out⟩
theorem delta_size(w:World)(pos:Int)(hpos:0≤pos∧pos≤18446744073709551615)(l:List Int)(al:Option Addr)(nl cl:Nat)
  (hl:rU64s.r (·<w.heap.size) w [.slice al nl cl] l) (hf:fallsB pos l=true) (hlen:l.length≤1000000):
  Calls Tryz.prog 372 #[.int .u64 pos,.slice al nl cl] w fun r w'=>r=.returned (.int .i64 ((deltaB pos l).length:Int))∧Below w.heap.size w w':=by
 obtain⟨rfl,hm,_,_⟩:=sl_len hl
 have HS:=hid (steps_own pos l al _ cl w hpos hl (by omega))
 have hsl:=stepsL_len pos l
 have hxs:=u64s_bounds hl
 have hnb:=numsB_len (stepsL pos l)
 have hvl:=varB_len l.length
 unfold StepsOwn at HS
 rw[hf] at HS
 simp only[if_true] at HS
 have hdl:(deltaB pos l).length=(varB l.length).length+(numsB (stepsL pos l)).length:=by unfold deltaB;rw[List.length_append]
 rw[hdl]
 have HMO:=hid (fun k=>numsB_take_le (stepsL pos l) k)
 have HNS:=hid (fun (k:Nat) (h:k<(stepsL pos l).length)=>numsB_step (stepsL pos l) k h)
 have HVS:=hid (fun (W:World)=>varint_size l.length (by omega) W)
 generalize stepsL pos l=T at*
 generalize hL:l.length=L at*
 have hLL:=hid hL
 generalize varB L=VL at*
 clear hl hf hxs hdl hL
 go_enter Tryz.func372,Tryz.ntmps372
 go_wp2_with fail
 refine HS.out.mono ?_
 rintro r w1 ⟨v,rfl,hr,hb1⟩
 obtain⟨a1,c1,hv,hr2,_⟩:=sl_form hr
 simp only[List.cons.injEq,and_true] at hv
 subst hv
 rw[hsl] at hr2 ⊢
 have HR:=hid (rBytesless hr2)
 clear hr hr2
 go_wp2_with fail
 refine (HVS.out _).mono ?_
 rintro r w2 ⟨rfl,hb2⟩
 have hbw2:=below_then hb2 hb1
 go_wp2_with fail
 go_loopw [7,24] (fun n i wr=>∃k m:Nat,k≤L∧i=.int .i64 k∧n=.int .i64 m∧Hid (m=VL.length+(numsB (T.take k)).length)∧Below w1.heap.size w1 wr) (fun _ i _=>L-(intOf i).toNat)
 case atStart=>exact ⟨0,VL.length,Nat.zero_le _,rfl,rfl,hid (by simp[numsB]),hb2⟩
 case round=>
  obtain⟨k,m,hk,rfl,rfl,hmm,hb⟩:=hrel
  have hmo:=HMO.out k
  have hmk:=hmm.out
  rcases Nat.lt_or_ge k L with hlt | hge
  ·have hkT:k<T.length:=by omega
   obtain⟨b,o,hA,hbb,hc,hx0,hx1⟩:=u64_at (lift HR.out hb) hkT
   subst hA
   have hst:=HNS.out k hkT
   have hvk:=(varB_len T[k].toNat).1
   have hV:=fun (W:World)=>varint_size T[k].toNat (by omega) W
   rw[toNat_cast hx0] at hV
   have HV3:=hid hV
   have HM:Hid (m+(varB T[k].toNat).length=VL.length+(numsB (T.take (k+1))).length):=hid (by rw[hst,List.length_append];omega)
   have i1:(k:Int)<(L:Int):=by omega
   have d1:decide ((k:Int)<(L:Int))=true:=decide_eq_true i1
   have hmb:m≤100000000:=by omega
   generalize varB T[k].toNat=VK at*
   generalize T[k]=y at*
   clear hV hst hmo hmk hmm
   go_wp2_with fail
   refine (HV3.out _).mono ?_
   rintro r w5 ⟨rfl,hb5⟩
   have hbw5:=below_then hb5 hb
   go_wp2
   go_roundw
   case rel=>exact ⟨k+1,m+VK.length,by omega,by go_num,by go_num,HM,hbw5⟩
   case measure=>simp [intOf];omega
  ·obtain rfl:k=L:=by omega
   have d1:decide ((k:Int)<(k:Int))=false:=decide_eq_false (by omega)
   have hfin:Hid (m=VL.length+(numsB T).length):=hid (by rw[hmk,List.take_of_length_le (by omega)])
   clear hmo hmk hmm
   go_wp2
   go_ret
   exact⟨by rw[hfin.out];simp,below_then hb hb1⟩
theorem rises_at:∀(l:List Int) (k:Nat) (h:k+1<l.length),risesB l=true→l[k]<l[k+1]
 | [],k,h,_=>by simp at h
 | [x],k,h,_=>by simp at h
 | x::y::l,k,h,hr=>by
  simp only[risesB,Bool.and_eq_true,decide_eq_true_eq] at hr
  cases k with
  | zero=>exact hr.1
  | succ k=>exact rises_at (y::l) k (by simpa using h) hr.2
theorem upsL_get:∀(l:List Link) (p:Option Int) (k:Nat) (h:k<l.length),(upsL p l)[k]'(by rw[upsL_len];exact h)=if hk:k=0 then (match p with | none=>l[k].stream | some q=>l[k].stream-q-1) else l[k].stream-(l[k-1]'(by omega)).stream-1
 | [],p,k,h=>by simp at h
 | x::l,p,0,h=>by cases p<;>simp [upsL]
 | x::l,p,k+1,h=>by
  simp only[upsL,List.getElem_cons_succ]
  rw[upsL_get l (some x.stream) k (by simpa using h)]
  cases k with
  | zero=>simp
  | succ k=>simp
def linkZ(pos:Int)(p:Option Int)(l:List Link):List (List UInt8):=List.zipWith (fun (y:Int) (x:Link)=>varB y.toNat++deltaB pos x.backs) (upsL p l) l
theorem linksF_zip(pos:Int):∀(l:List Link) (p:Option Int),lnkF pos p l=(linkZ pos p l).flatten
 | [],p=>rfl
 | x::l,p=>by
  simp only[lnkF,linkZ,upsL,List.zipWith_cons_cons,List.flatten_cons]
  rw[linksF_zip pos l (some x.stream)]
  rfl
theorem linkZ_len(pos:Int)(p:Option Int)(l:List Link):(linkZ pos p l).length=l.length:=by simp[linkZ,upsL_len]
theorem flat_step{α:Type}(Z:List (List α))(k:Nat)(h:k<Z.length):(Z.take (k+1)).flatten=(Z.take k).flatten++Z[k]:=by
 rw[List.take_succ_eq_append_getElem h,List.flatten_append];simp
theorem flat_take_le{α:Type}(Z:List (List α))(k:Nat):(Z.take k).flatten.length≤Z.flatten.length:=by
 have:Z.flatten=(Z.take k).flatten++(Z.drop k).flatten:=by rw[←List.flatten_append,List.take_append_drop]
 rw[this,List.length_append];omega
theorem linkZ_get(pos:Int)(l:List Link)(k:Nat)(h:k<l.length):(linkZ pos none l)[k]'(by rw[linkZ_len];exact h)=varB ((upsL none l)[k]'(by rw[upsL_len];exact h)).toNat++deltaB pos l[k].backs:=by
 simp[linkZ]
theorem link_steps(w:World)(l:List Link)(al:Option Addr)(nl cl:Nat)(hl:rLinks.r (·<w.heap.size) w [.slice al nl cl] l)(hri:risesB (l.map Link.stream)=true)(hlen:l.length≤1000000):
  Calls Tryz.prog 324 #[.slice al nl cl] w fun r w'=>∃v,r=.returned v∧rU64s.r (fun q=>w.heap.size≤q∧q<w'.heap.size) w' [v] (upsL none l)∧Below w.heap.size w w':=by
 obtain⟨rfl,hm,_,_⟩:=sl_len hl
 obtain⟨i0,hi,hz0,hz1,hz2⟩:=info_parts infoU
 have HL:=hid hl
 have hul:=upsL_len none l
 have HU:=hid (fun (k:Nat) (h:k<l.length)=>upsL_get l none k h)
 have HRI:=hid (fun (k:Nat) (h:k+1<l.length)=>(by have:=rises_at (l.map Link.stream) k (by simpa using h) hri;simpa using this:l[k].stream<l[k+1].stream))
 clear hl hri
 go_enter Tryz.func324,Tryz.ntmps324
 go_wp2_with fail
 go_loopw [3,9] (fun v i wr=>∃k:Nat,k≤l.length∧i=.int .i64 k∧wr.ownsRow w.heap.size 25 1 v k (u64Cells ((upsL none l).take k))∧Hid (∀x∈(upsL none l).take k,0≤x∧x≤18446744073709551615)∧Below w.heap.size w wr) (fun _ i _=>l.length-(intOf i).toNat)
 case atStart=>exact ⟨0,Nat.zero_le _,rfl,⟨rfl,.inl ⟨rfl,rfl⟩⟩,hid (by simp),Below.refl _ _⟩
 case round=>
  obtain⟨k,hk,rfl,hown,hbd,hb⟩:=hrel
  obtain⟨av,cv,rfl⟩:=own_form hown
  rcases Nat.lt_or_ge k l.length with hlt | hge
  ·obtain⟨b,o,hA,hbb,a2,c2,x0,x1,hx,xl⟩:=link_at (lift HL.out hb) hlt
   subst hA
   have hu:=HU.out k hlt
   have i1:(k:Int)<(l.length:Int):=by omega
   have d1:decide ((k:Int)<(l.length:Int))=true:=decide_eq_true i1
   have hbl:b<wr.heap.size:=World.block_lt_of_cell? _ _ x0
   have htk:u64Cells ((upsL none l).take (k+1))=u64Cells ((upsL none l).take k)++[.int .u64 ((upsL none l)[k]'(by omega))]:=by
    rw[List.take_succ_eq_append_getElem (by omega)];unfold u64Cells;rw[List.map_append];rfl
   have hnb:∀y:Int,(upsL none l)[k]'(by omega)=y→(0≤y∧y≤18446744073709551615)→∀x∈(upsL none l).take (k+1),0≤x∧x≤18446744073709551615:=fun y e hy x hx=>by
    rw[List.take_succ_eq_append_getElem (by omega),List.mem_append,List.mem_singleton] at hx
    rcases hx with hx | rfl
    ·exact hbd.out x hx
    ·rw[e];exact hy
   have HTK:=hid htk
   have HNB:=hid hnb
   have HO:=hid hown
   have hz:=hb.size
   rcases Nat.eq_zero_or_pos k with rfl | hk0
   ·rw[dif_pos rfl] at hu
    (try dsimp only at hu)
    rw[hu] at HTK
    have HBD:=hid (HNB.out _ hu hx)
    simp only[Nat.zero_mul,Nat.add_zero,Nat.zero_add] at x0 x1
    have d2:decide ((0:Int)<((0:Nat):Int))=false:=by decide
    generalize l[0]=y at*
    clear hu htk hnb hbd hown xl hx
    go_wp2_with (at_builtin;go_loud (refine wpList_append_src rfl _ _ _ rfl w.heap.size 25 i0 (.int .u64 0) 1 8 Tryz.underlying49 hi hz0 hz1 hz2 rfl (by decide) (.slice av 0 cv) 0 _ rfl (own_below HO.out (by (repeat (first | with_reducible exact Below.refl _ _ | with_reducible assumption | (with_reducible refine below_alloc ?_ _) | (with_reducible refine Below.setCell ?_ (by first | omega | (simp;done) | (simp;omega)) _) | (with_reducible refine Below.drew ?_) | (with_reducible refine below_drewN ?_ _) | (refine below_then (by with_reducible assumption) ?_))))) (some ⟨wr.heap.size+1,0,none⟩) 1 1 [.int .u64 y.stream] rfl (src_new1 _ 25 _ rfl (by simp) rfl) (by simp[Value.oneCell']) (by simp only[maxLen];omega) (by omega) (by simp;omega) ?_;intro v' w3 hown3 hgrow3 hat3;obtain⟨a3,c3,rfl⟩:=own_form hown3;have HO3:=hid hown3;have hb3:Below w.heap.size wr w3:=(Below.grown ((by (repeat (first | with_reducible exact Below.refl _ _ | with_reducible assumption | (with_reducible refine below_alloc ?_ _) | (with_reducible refine Below.setCell ?_ (by first | omega | (simp;done) | (simp;omega)) _) | (with_reducible refine Below.drew ?_) | (with_reducible refine below_drewN ?_ _) | (refine below_then (by with_reducible assumption) ?_))):Below wr.heap.size wr _).mono hz) hgrow3 (by simp;omega) (fun g e=>(HO.out.lt g e).1));clear hown3 hgrow3 hat3))
    have ho3:=HO3.out
    rw[←HTK.out] at ho3
    have HO4:=hid ho3
    clear ho3 x0 x1
    go_roundw
    case rel=>exact ⟨1,by omega,by go_num,by simpa using HO4.out,HBD,hb.trans hb3⟩
    case measure=>simp [intOf];omega
   ·obtain⟨m,rfl⟩:∃m,k=m+1:=⟨k-1,by omega⟩
    obtain⟨b',o',hA',hbb',a3,c3,y0,y1,hy,yl⟩:=link_at (lift HL.out hb) (show m<l.length by omega)
    simp only[Option.some.injEq,Addr.mk.injEq] at hA'
    obtain⟨rfl,rfl,_⟩:=hA'
    have hri:=HRI.out m hlt
    rw[dif_neg (by omega)] at hu
    simp only[Nat.add_sub_cancel] at hu
    rw[hu] at HTK
    have HBD:=hid (HNB.out _ hu (by omega))
    have i1':(m:Int)+1<(l.length:Int):=by omega
    have i2:(m:Int)<(l.length:Int):=by omega
    have d2:decide ((m:Int)+1<(l.length:Int))=true:=decide_eq_true i1'
    have d3:decide (m+1<l.length)=true:=decide_eq_true hlt
    generalize l[m+1]=y at*
    generalize l[m]'(by omega)=z at*
    have w1:0≤y.stream-(z.stream+1):=by omega
    have w2:z.stream+1≤18446744073709551615:=by omega
    rw[show y.stream-z.stream-1=y.stream-(z.stream+1) by omega] at HTK
    clear hu htk hnb hbd hown xl yl
    go_wp2_with (at_builtin;go_loud (refine wpList_append_src rfl _ _ _ rfl w.heap.size 25 i0 (.int .u64 0) 1 8 Tryz.underlying49 hi hz0 hz1 hz2 rfl (by decide) (.slice av (m+1) cv) (m+1) _ rfl (own_below HO.out (by (repeat (first | with_reducible exact Below.refl _ _ | with_reducible assumption | (with_reducible refine below_alloc ?_ _) | (with_reducible refine Below.setCell ?_ (by first | omega | (simp;done) | (simp;omega)) _) | (with_reducible refine Below.drew ?_) | (with_reducible refine below_drewN ?_ _) | (refine below_then (by with_reducible assumption) ?_))))) (some ⟨wr.heap.size+1,0,none⟩) 1 1 [.int .u64 (y.stream-(z.stream+1))] rfl (src_new1 _ 25 _ rfl (by simp) rfl) (by simp[Value.oneCell']) (by simp only[maxLen];omega) (by omega) (by simp;omega) ?_;intro v' w3 hown3 hgrow3 hat3;obtain⟨a3,c3,rfl⟩:=own_form hown3;have HO3:=hid hown3;have hb3:Below w.heap.size wr w3:=(Below.grown ((by (repeat (first | with_reducible exact Below.refl _ _ | with_reducible assumption | (with_reducible refine below_alloc ?_ _) | (with_reducible refine Below.setCell ?_ (by first | omega | (simp;done) | (simp;omega)) _) | (with_reducible refine Below.drew ?_) | (with_reducible refine below_drewN ?_ _) | (refine below_then (by with_reducible assumption) ?_))):Below wr.heap.size wr _).mono hz) hgrow3 (by simp;omega) (fun g e=>(HO.out.lt g e).1));clear hown3 hgrow3 hat3))
    have ho3:=HO3.out
    rw[←HTK.out] at ho3
    have HO4:=hid ho3
    clear ho3 x0 x1 y0 y1
    go_roundw
    case rel=>exact ⟨m+1+1,by omega,by go_num,HO4.out,HBD,hb.trans hb3⟩
    case measure=>simp [intOf];omega
  ·obtain rfl:k=l.length:=by omega
   have d1:decide ((l.length:Int)<(l.length:Int))=false:=decide_eq_false (by omega)
   have hv:=hown
   rw[List.take_of_length_le (by omega)] at hv hbd
   have HV:=hid (own_ints64 hbd.out (by omega) hv)
   clear hv hown
   go_wp2
   go_ret
   exact⟨_,rfl,HV.out,hb⟩
theorem upsL_bounds(l:List Link)(hri:risesB (l.map Link.stream)=true)(hx:∀x∈l,0≤x.stream∧x.stream≤18446744073709551615):∀k,(h:k<l.length)→0≤(upsL none l)[k]'(by rw[upsL_len];exact h)∧(upsL none l)[k]'(by rw[upsL_len];exact h)≤18446744073709551615:=by
 intro k h
 rw[upsL_get l none k h]
 have hk:=hx l[k] (List.getElem_mem h)
 split
 ·exact hk
 ·rename_i h0
  have h1:=hx (l[k-1]'(by omega)) (List.getElem_mem _)
  have h2:=rises_at (l.map Link.stream) (k-1) (by simp;omega) hri
  simp only[List.getElem_map,Nat.sub_add_cancel (show 1≤k by omega)] at h2
  omega
theorem links_bounds{S:Nat→Prop}{w:World}{a:Option Addr}{n c:Nat}{l:List Link}(h:rLinks.r S w [.slice a n c] l):∀x∈l,linkN x:=by
 intro x hx
 obtain⟨i,hi,rfl⟩:=List.getElem_of_mem hx
 obtain⟨b,o,_,_,a2,c2,_,_,hs,xl⟩:=link_at h hi
 exact⟨hs,fun y hy=>(u64s_bounds xl y hy).1⟩
theorem linkZ_len_le(pos:Int)(l:List Link)(hR:linksR pos l=true):(lnkF pos none l).length≤51*l.length:=by
 have key:∀(l:List Link) (p:Option Int),(∀x∈l,linkR pos x=true)→(lnkF pos p l).length≤51*l.length:=by
  intro l
  induction l with
  | nil=>intro p _;simp[lnkF]
  | cons x l ih=>
   intro p hx
   have h1:=hx x (by simp)
   simp only[linkR,Bool.and_eq_true,decide_eq_true_eq] at h1
   have h2:=ih (some x.stream) (fun y hy=>hx y (by simp[hy]))
   have h3:=deltaB_len pos x.backs (by omega)
   cases p with
   | none=>
    have h4:=(varB_len x.stream.toNat).1
    simp only[lnkF,List.length_append,List.length_cons]
    omega
   | some q=>
    have h4:=(varB_len (x.stream-q-1).toNat).1
    simp only[lnkF,List.length_append,List.length_cons]
    omega
 simp only[linksR,Bool.and_eq_true,decide_eq_true_eq,List.all_eq_true] at hR
 exact key l none hR.2.2
theorem link_put(w:World){g base most:Nat}{J:List UInt8}{a:Option Addr}{c:Nat}(h:PenAt w g base most J a c)(pos:Int)(hpos:0≤pos∧pos≤18446744073709551615)(l:List Link)(al:Option Addr)(nl cl:Nat)
  (hl:rLinks.r (fun q=>q<w.heap.size∧¬PenF g a q) w [.slice al nl cl] l) (hR:linksR pos l=true) (hbk:∀x∈l,x.backs.length≤1000000) (hfit:J.length+(linksB pos l).length≤most) (hln2:J.length+(linksB pos l).length≤100000000000000):
  Calls Tryz.prog 226 #[.pointer (some ⟨g,0,none⟩),.int .u64 pos,.slice al nl cl] w fun r w'=>r=.returned (.tuple #[])∧PenStep w g base most (J++linksB pos l) a w':=by
 obtain⟨rfl,hm,_,_⟩:=sl_len hl
 have hN:=links_bounds hl
 have HRT:=hid (link_right pos l al _ cl w hpos (pen_low hl) (fun x hx=>by have:=hbk x hx;omega))
 have hR':=hR
 simp only[linksR,Bool.and_eq_true,decide_eq_true_eq,List.all_eq_true] at hR'
 rw[hR] at HRT
 have hlk:∀x∈l,fallsB pos x.backs=true:=fun x hx=>by have:=hR'.2.2 x hx;simp only[linkR,Bool.and_eq_true] at this;exact this.2
 have HLK:=hid hlk
 have HBK:=hid hbk
 have hup:=hid (upsL_bounds l hR'.2.1 (fun x hx=>(hN x hx).1))
 have hul:=upsL_len none l
 have hzl:=linkZ_len pos none l
 have HSP:=hid (fun (W:World) (hW:rLinks.r (·<W.heap.size) W [.slice al l.length cl] l)=>link_steps W l al _ cl hW hR'.2.1 (by omega))
 have hdl:(linksB pos l).length=(varB l.length).length+((linkZ pos none l).flatten).length:=by unfold linksB;rw[List.length_append,linksF_zip]
 rw[hdl] at hfit hln2
 unfold linksB
 rw[linksF_zip]
 have HP:=hid h
 have HL:=hid hl
 have hvl:=varB_len l.length
 have HV:=hid (fun (W:World) (hW:Below w.heap.size w W)=>varint_put W (h.later hW) l.length (by omega) (by omega) (by omega))
 have HMO:=hid (fun k=>flat_take_le (linkZ pos none l) k)
 have HNS:=hid (fun (k:Nat) (h:k<l.length)=>(by have:=flat_step (linkZ pos none l) k (by omega);rw[linkZ_get pos l k h] at this;exact this:((linkZ pos none l).take (k+1)).flatten=((linkZ pos none l).take k).flatten++(varB ((upsL none l)[k]'(by rw[upsL_len];exact h)).toNat++deltaB pos l[k].backs)))
 generalize linkZ pos none l=Z at*
 have hll:l.length≤16:=hR'.1
 clear h hl hR hR' hlk hbk hN hdl
 go_enter Tryz.func226,Tryz.ntmps226
 go_wp2_with fail
 refine HRT.out.mono ?_
 rintro r w1 ⟨rfl,hb1⟩
 go_wp2_with fail
 refine (HV.out _ hb1).mono ?_
 rintro r w2 ⟨rfl,a2,c2,hp2,ht2,ha2⟩
 have hd2:=pen_data ht2 ha2 (pen_later hb1 HL.out)
 have HP2:=hid hp2
 have HD2:=hid hd2
 have HT2:=hid (And.intro ht2 ha2)
 clear hp2 hd2 ht2 ha2
 go_wp2_with fail
 refine (HSP.out w2 (pen_low HD2.out)).mono ?_
 rintro r w3 ⟨v3,rfl,hr3,hb3⟩
 obtain⟨a3,c3,hv3,hr3',_⟩:=sl_form hr3
 simp only[List.cons.injEq,and_true] at hv3
 subst hv3
 have HR3:=hid (pen_new_data HP2.out hr3')
 have HD3:=hid (pen_later hb3 HD2.out)
 have HP3:=hid (HP2.out.later hb3)
 rw[hul] at HR3 ⊢
 clear hr3 hr3'
 go_wp2_with fail
 go_loopw [22] (fun i wr=>∃k:Nat,k≤l.length∧i=.int .i64 k∧Hid (PenStep w3 g base most (J++varB l.length++(Z.take k).flatten) a2 wr)) (fun i _=>l.length-(intOf i).toNat)
 case atStart=>exact ⟨0,Nat.zero_le _,rfl,hid (by simpa using PenStep.refl HP3.out)⟩
 case round=>
  obtain⟨k,hk,rfl,hp⟩:=hrel
  obtain⟨a4,c4,hp4,ht4,ha4⟩:=hp.out
  rcases Nat.lt_or_ge k l.length with hlt | hge
  ·have hr4:=pen_data ht4 ha4 HR3.out
   have hd4:=pen_data ht4 ha4 HD3.out
   obtain⟨b,o,hA,hbb,hc,hx0,hx1⟩:=u64_at hr4 (show k<(upsL none l).length by omega)
   obtain⟨b',o',hA',hbb',a5,c5,y0,y1,hs,yl⟩:=link_at hd4 hlt
   subst hA hA'
   have hst:=HNS.out k hlt
   have hfk:=HMO.out (k+1)
   rw[hst,List.length_append,List.length_append] at hfk
   have hvk:=(varB_len ((upsL none l)[k]'(by omega)).toNat).1
   have hJ4:=hp4.len
   simp only[List.length_append] at hJ4
   have hV:=varint_put wr hp4 ((upsL none l)[k]'(by omega)).toNat (by omega) (by simp only[List.length_append];omega) (by simp only[List.length_append];omega)
   rw[toNat_cast hx0] at hV
   have HV4:=hid hV
   have HT4:=hid (And.intro ht4 ha4)
   have HYL:=hid yl
   have HST:=hid hst
   have HFK:=hid hfk
   have hfl:=HLK.out l[k] (List.getElem_mem hlt)
   have hbl:=HBK.out l[k] (List.getElem_mem hlt)
   have HFL:=hid hfl
   have HDY:=hid (And.intro hbb' y1)
   have i1:(k:Int)<(l.length:Int):=by omega
   have d1:decide ((k:Int)<(l.length:Int))=true:=decide_eq_true i1
   clear hV hr4 hd4 hst hp4 ht4 ha4 hp hfk hvk hJ4 hfl y0 yl y1 hbb'
   generalize (upsL none l)[k]'(by omega)=u at*
   generalize l[k]=y at*
   go_wp2_with fail
   refine HV4.out.mono ?_
   rintro r w5 ⟨rfl,a6,c6,hp5,ht5,ha5⟩
   have Y1:w5.cell? ⟨b',o'+k*2+1,none⟩=some (.slice a5 y.backs.length c5):=(ht5.cell (p:=⟨b',o'+k*2+1,none⟩) HDY.out.1.1 HDY.out.1.2).trans HDY.out.2
   have hy5:=pen_low (pen_data ht5 ha5 HYL.out)
   have HD5:=hid (delta_put w5 hp5 pos hpos y.backs a5 _ c5 hy5 HFL.out hbl (by have:=HFK.out;simp only[List.length_append];omega) (by have:=HFK.out;simp only[List.length_append];omega))
   have HT5:=hid (And.intro ht5 ha5)
   clear hy5 hp5 ht5 ha5 hc
   go_wp2_with fail
   refine HD5.out.mono ?_
   rintro r w6 ⟨rfl,hst6⟩
   have hn:=PenStep.trans (J:=J) HT4.out.1 HT4.out.2 (PenStep.trans (J:=J) HT5.out.1 HT5.out.2 hst6)
   rw[List.append_assoc,List.append_assoc (J++varB l.length),←HST.out] at hn
   have HN:=hid hn
   clear hst6 hn Y1
   go_wp2
   go_roundw
   case rel=>exact ⟨k+1,by omega,by go_num,HN⟩
   case measure=>simp [intOf];omega
  ·obtain rfl:k=l.length:=by omega
   have d1:decide ((l.length:Int)<(l.length:Int))=false:=decide_eq_false (by omega)
   rw[List.take_of_length_le (by omega)] at hp
   have hn:=PenStep.later hb1 (PenStep.trans (J:=J) HT2.out.1 HT2.out.2 (PenStep.later hb3 hp.out))
   rw[List.append_assoc] at hn
   have HN:=hid hn
   clear hp hp4 ht4 ha4 hn
   go_wp2
   first | go_end0 | refine bodyPost_ret (results_none rfl _ _ _) rfl ?_
   exact⟨rfl,HN.out⟩
theorem link_size(w:World)(pos:Int)(hpos:0≤pos∧pos≤18446744073709551615)(l:List Link)(al:Option Addr)(nl cl:Nat)
  (hl:rLinks.r (·<w.heap.size) w [.slice al nl cl] l) (hR:linksR pos l=true) (hbk:∀x∈l,x.backs.length≤1000000):
  Calls Tryz.prog 321 #[.int .u64 pos,.slice al nl cl] w fun r w'=>r=.returned (.int .i64 ((linksB pos l).length:Int))∧Below w.heap.size w w':=by
 obtain⟨rfl,hm,_,_⟩:=sl_len hl
 have hN:=links_bounds hl
 have HRT:=hid (link_right pos l al _ cl w hpos hl (fun x hx=>by have:=hbk x hx;omega))
 have hR':=hR
 simp only[linksR,Bool.and_eq_true,decide_eq_true_eq,List.all_eq_true] at hR'
 rw[hR] at HRT
 have hlk:∀x∈l,fallsB pos x.backs=true:=fun x hx=>by have:=hR'.2.2 x hx;simp only[linkR,Bool.and_eq_true] at this;exact this.2
 have HLK:=hid hlk
 have HBK:=hid hbk
 have hul:=upsL_len none l
 have hzl:=linkZ_len pos none l
 have HSP:=hid (fun (W:World) (hW:rLinks.r (·<W.heap.size) W [.slice al l.length cl] l)=>link_steps W l al _ cl hW hR'.2.1 (by omega))
 have hdl:(linksB pos l).length=(varB l.length).length+((linkZ pos none l).flatten).length:=by unfold linksB;rw[List.length_append,linksF_zip]
 have hle:=linkZ_len_le pos l hR
 rw[linksF_zip] at hle
 rw[hdl]
 have HL:=hid hl
 have hvl:=varB_len l.length
 have HV:=hid (fun (W:World)=>varint_size l.length (by omega) W)
 have HMO:=hid (fun k=>flat_take_le (linkZ pos none l) k)
 have HNS:=hid (fun (k:Nat) (h:k<l.length)=>(by have:=flat_step (linkZ pos none l) k (by omega);rw[linkZ_get pos l k h] at this;exact this:((linkZ pos none l).take (k+1)).flatten=((linkZ pos none l).take k).flatten++(varB ((upsL none l)[k]'(by rw[upsL_len];exact h)).toNat++deltaB pos l[k].backs)))
 generalize linkZ pos none l=Z at*
 generalize varB l.length=VL at*
 have hll:l.length≤16:=hR'.1
 clear hl hR hR' hlk hbk hN hdl
 go_enter Tryz.func321,Tryz.ntmps321
 go_wp2_with fail
 refine HRT.out.mono ?_
 rintro r w1 ⟨rfl,hb1⟩
 go_wp2_with fail
 refine (HV.out w1).mono ?_
 rintro r w2 ⟨rfl,hb2⟩
 have hb12:=below_then hb2 hb1
 go_wp2_with fail
 refine (HSP.out w2 (lift HL.out hb12)).mono ?_
 rintro r w3 ⟨v3,rfl,hr3,hb3⟩
 obtain⟨a3,c3,hv3,hr3',_⟩:=sl_form hr3
 simp only[List.cons.injEq,and_true] at hv3
 subst hv3
 have HR3:=hid (rBytesless hr3')
 have hbw3:=below_then hb3 hb12
 rw[hul] at HR3 ⊢
 clear hr3 hr3'
 go_wp2_with fail
 go_loopw [5,19] (fun n i wr=>∃k m:Nat,k≤l.length∧i=.int .i64 k∧n=.int .i64 m∧Hid (m=VL.length+(Z.take k).flatten.length)∧Below w3.heap.size w3 wr) (fun _ i _=>l.length-(intOf i).toNat)
 case atStart=>exact ⟨0,VL.length,Nat.zero_le _,rfl,rfl,hid (by simp),Below.refl _ _⟩
 case round=>
  obtain⟨k,m,hk,rfl,rfl,hmm,hb⟩:=hrel
  have hmo:=HMO.out k
  have hmk:=hmm.out
  rcases Nat.lt_or_ge k l.length with hlt | hge
  ·obtain⟨b,o,hA,hbb,hc,hx0,hx1⟩:=u64_at (lift HR3.out hb) (show k<(upsL none l).length by omega)
   have hbw:=below_then hb hbw3
   obtain⟨b',o',hA',hbb',a5,c5,y0,y1,hs,yl⟩:=link_at (lift HL.out hbw) hlt
   subst hA hA'
   have hst:=HNS.out k hlt
   have hfk:=HMO.out (k+1)
   rw[hst,List.length_append,List.length_append] at hfk
   have HV4:=hid (fun (W:World)=>(by have:=varint_size ((upsL none l)[k]'(by omega)).toNat (by omega) W;rw[toNat_cast hx0] at this;exact this:Calls Tryz.prog 312 #[.int .u64 ((upsL none l)[k]'(by omega))] W fun r w'=>r=.returned (.int .i64 (varB ((upsL none l)[k]'(by omega)).toNat).length)∧Below W.heap.size W w'))
   have hfl:=HLK.out l[k] (List.getElem_mem hlt)
   have hbl:=HBK.out l[k] (List.getElem_mem hlt)
   have HD4:=hid (fun s:Later wr=>delta_size s.at_ pos hpos l[k].backs a5 _ c5 (lift yl s.below) hfl hbl)
   have HV5:=hid (fun s:Later wr=>HV4.out s.at_)
   have HM:Hid (m+((varB ((upsL none l)[k]'(by omega)).toNat).length+(deltaB pos l[k].backs).length)=VL.length+(Z.take (k+1)).flatten.length):=hid (by rw[hst];simp only[List.length_append];omega)
   have hmb:m≤1000000:=by omega
   have hd1:(varB ((upsL none l)[k]'(by omega)).toNat).length≤1000000∧(deltaB pos l[k].backs).length≤1000000:=by omega
   have i1:(k:Int)<(l.length:Int):=by omega
   have d1:decide ((k:Int)<(l.length:Int))=true:=decide_eq_true i1
   have Y1:=fun s:Later wr=>s.cell y1
   generalize varB ((upsL none l)[k]'(by omega)).toNat=VK at*
   generalize deltaB pos l[k].backs=DK at*
   generalize (upsL none l)[k]'(by omega)=u at*
   generalize l[k]=y at*
   clear HV4 hst hmo hmk hmm hfk hfl yl y0
   go_wp2_with fail
   refine wp_region_later (by kernel_rfl) (by kernel_rfl) ?_
   repeat (go_big_quiet_step ((first | (go_at_call 312;with_reducible exact later_of (HV5.out _)) | (go_at_call 372;with_reducible exact later_of (HD4.out _)))))
   refine wpQuiet_nil ?_
   rintro W5 ⟨⟨W5',hb5⟩,rfl⟩
   have hbw5:=below_then hb5 hb
   clear Y1
   go_wp2
   go_roundw
   case rel=>exact ⟨k+1,m+(VK.length+DK.length),by omega,by go_num,by go_num,HM,hbw5⟩
   case measure=>simp [intOf];omega
  ·obtain rfl:k=l.length:=by omega
   have d1:decide ((l.length:Int)<(l.length:Int))=false:=decide_eq_false (by omega)
   have hfin:Hid (m=VL.length+Z.flatten.length):=hid (by rw[hmk,List.take_of_length_le (by omega)])
   clear hmo hmk hmm
   go_wp2
   go_ret
   exact⟨by rw[hfin.out];simp,below_then hb hbw3⟩
def headN(pos:Int)(e:Entry):Nat:=if entryR pos e=true then (headB pos e).length else 0
theorem headN_le(pos:Int)(e:Entry):headN pos e≤1000:=by
 unfold headN
 split
 ·rename_i h
  simp only[entryR,Bool.and_eq_true] at h
  have h1:=linkZ_len_le pos e.links h.1
  have h2:=h.1
  simp only[linksR,Bool.and_eq_true,decide_eq_true_eq] at h2
  have h3:=(varB_len e.links.length).1
  have h4:=(varB_len e.data.length).1
  simp only[headB,linksB,List.length_append]
  omega
 ·omega
theorem e_blk{w:World}{g:Nat}{t:TypeId}{v0 v1:Value}(h:Blk w g t #[v0,v1]):w.cell? ⟨g,0,none⟩=some v0∧w.cell? ⟨g,1,none⟩=some v1∧g<w.heap.size:=
 ⟨h.cell 0,h.cell 1,h.lt⟩
theorem entry_headsize(w:World)(pos:Int)(hpos:0≤pos∧pos≤18446744073709551615)(e:Entry)(a1 a2:Option Addr)(n1 c1 n2 c2:Nat)
  (hl:rLinks.r (·<w.heap.size) w [.slice a1 n1 c1] e.links) (hd:rBytes.r (·<w.heap.size) w [.slice a2 n2 c2] e.data) (hbk:∀x∈e.links,x.backs.length≤1000000):
  Calls Tryz.prog 223 #[.int .u64 pos,.agg #[.slice a1 n1 c1,.slice a2 n2 c2]] w fun r w'=>r=.returned (.int .i64 (headN pos e:Int))∧Below w.heap.size w w':=by
 obtain⟨rfl,hm1,_,_⟩:=sl_len hl
 obtain⟨rfl,hm2,_,_⟩:=sl_len hd
 have HER:=hid (fun (W:World) (hW:Below w.heap.size w W)=>entry_right pos e a1 a2 _ c1 _ c2 W hpos (fun x hx=>by have:=hbk x hx;omega) (lift hl hW) (lift hd hW))
 unfold headN
 cases hR:entryR pos e
 ·rw[hR] at HER
  rw[if_neg (by simp)]
  go_enter Tryz.func223,Tryz.ntmps223
  go_wp2_with fail
  refine (HER.out _ (by (repeat (first | with_reducible exact Below.refl _ _ | with_reducible assumption | (with_reducible refine below_alloc ?_ _) | (with_reducible refine Below.setCell ?_ (by first | omega | (simp;done) | (simp;omega)) _) | (with_reducible refine Below.drew ?_) | (with_reducible refine below_drewN ?_ _) | (refine below_then (by with_reducible assumption) ?_))))).mono ?_
  rintro r w1 ⟨rfl,hb1⟩
  go_wp2
  go_ret
  exact⟨rfl,by (repeat (first | with_reducible exact Below.refl _ _ | with_reducible assumption | (with_reducible refine below_alloc ?_ _) | (with_reducible refine Below.setCell ?_ (by first | omega | (simp;done) | (simp;omega)) _) | (with_reducible refine Below.drew ?_) | (with_reducible refine below_drewN ?_ _) | (refine below_then (by with_reducible assumption) ?_)))⟩
 ·rw[hR] at HER
  rw[if_pos rfl]
  have hR':=hR
  simp only[entryR,Bool.and_eq_true,decide_eq_true_eq] at hR'
  have hbl:(headB pos e).length=(linksB pos e.links).length+(varB e.data.length).length:=by unfold headB;rw[List.length_append]
  have hle:=headN_le pos e
  unfold headN at hle
  rw[if_pos hR,hbl] at hle
  rw[hbl]
  have HLS:=hid (fun (W:World) (hW:Below w.heap.size w W)=>link_size W pos hpos e.links a1 _ c1 (lift hl hW) hR'.1 hbk)
  have HVS:=hid (fun (W:World)=>varint_size e.data.length (by omega) W)
  have hdl:=hR'.2
  generalize varB e.data.length=V at*
  generalize linksB pos e.links=LB at*
  clear hl hd hR hR' hbl
  go_enter Tryz.func223,Tryz.ntmps223
  go_wp2_with fail
  refine (HER.out _ (by (repeat (first | with_reducible exact Below.refl _ _ | with_reducible assumption | (with_reducible refine below_alloc ?_ _) | (with_reducible refine Below.setCell ?_ (by first | omega | (simp;done) | (simp;omega)) _) | (with_reducible refine Below.drew ?_) | (with_reducible refine below_drewN ?_ _) | (refine below_then (by with_reducible assumption) ?_))))).mono ?_
  rintro r w1 ⟨rfl,hb1⟩
  have B1:=Blk.later (Blk.newAt w 84 #[.slice a1 e.links.length c1,.slice a2 e.data.length c2] rfl) hb1
  have hbw1:Below w.heap.size w w1:=by (repeat (first | with_reducible exact Below.refl _ _ | with_reducible assumption | (with_reducible refine below_alloc ?_ _) | (with_reducible refine Below.setCell ?_ (by first | omega | (simp;done) | (simp;omega)) _) | (with_reducible refine Below.drew ?_) | (with_reducible refine below_drewN ?_ _) | (refine below_then (by with_reducible assumption) ?_)))
  have C0:=fun s:Later w1=>s.cell (B1.cell 0)
  have C1:=fun s:Later w1=>s.cell (B1.cell 1)
  simp at C0 C1
  have HS1:=hid (fun s:Later w1=>HLS.out s.at_ (below_then s.below hbw1))
  have HS2:=hid (fun s:Later w1=>HVS.out s.at_)
  clear B1 hb1
  go_wp2_with fail
  refine wp_region_later (by kernel_rfl) (by kernel_rfl) ?_
  repeat (go_big_quiet_step ((first | (go_at_call 321;with_reducible exact later_of (HS1.out _)) | (go_at_call 312;with_reducible exact later_of (HS2.out _)))))
  refine wpQuiet_nil ?_
  rintro W5 ⟨⟨W5',hb5⟩,rfl⟩
  clear C0 C1
  go_wp2
  go_ret
  exact⟨by simp,below_then hb5 hbw1⟩
theorem entry_puthead(w:World){g base most:Nat}{J:List UInt8}{a:Option Addr}{c:Nat}(h:PenAt w g base most J a c)(pos:Int)(hpos:0≤pos∧pos≤18446744073709551615)(e:Entry)(a1 a2:Option Addr)(n1 c1 n2 c2:Nat)
  (hl:rLinks.r (fun q=>q<w.heap.size∧¬PenF g a q) w [.slice a1 n1 c1] e.links) (hd:rBytes.r (·<w.heap.size) w [.slice a2 n2 c2] e.data) (hR:entryR pos e=true) (hbk:∀x∈e.links,x.backs.length≤1000000) (hfit:J.length+(headB pos e).length≤most) (hln2:J.length+(headB pos e).length≤100000000000000):
  Calls Tryz.prog 380 #[.pointer (some ⟨g,0,none⟩),.int .u64 pos,.agg #[.slice a1 n1 c1,.slice a2 n2 c2]] w fun r w'=>r=.returned (.tuple #[])∧PenStep w g base most (J++headB pos e) a w':=by
 obtain⟨rfl,hm1,_,_⟩:=sl_len hl
 obtain⟨rfl,hm2,_,_⟩:=sl_len hd
 have HER:=hid (fun (W:World) (hW:Below w.heap.size w W)=>entry_right pos e a1 a2 _ c1 _ c2 W hpos (fun x hx=>by have:=hbk x hx;omega) (lift (pen_low hl) hW) (lift hd hW))
 rw[hR] at HER
 have hR':=hR
 simp only[entryR,Bool.and_eq_true,decide_eq_true_eq] at hR'
 have hbl:(headB pos e).length=(linksB pos e.links).length+(varB e.data.length).length:=by unfold headB;rw[List.length_append]
 rw[hbl] at hfit hln2
 have hhb:headB pos e=linksB pos e.links++varB e.data.length:=rfl
 rw[hhb]
 have HPT:=hid (fun (W:World) (hW:Below w.heap.size w W)=>link_put W (h.later hW) pos hpos e.links a1 _ c1 (pen_later hW hl) hR'.1 hbk (by omega) (by omega))
 have HP:=hid h
 have hdl:=hR'.2
 generalize linksB pos e.links=LB at*
 clear h hl hd hR hR' hbl hhb
 go_enter Tryz.func380,Tryz.ntmps380
 go_wp2_with fail
 refine (HER.out _ (by (repeat (first | with_reducible exact Below.refl _ _ | with_reducible assumption | (with_reducible refine below_alloc ?_ _) | (with_reducible refine Below.setCell ?_ (by first | omega | (simp;done) | (simp;omega)) _) | (with_reducible refine Below.drew ?_) | (with_reducible refine below_drewN ?_ _) | (refine below_then (by with_reducible assumption) ?_))))).mono ?_
 rintro r w1 ⟨rfl,hb1⟩
 have B1:=Blk.later (Blk.newAt w 84 #[.slice a1 e.links.length c1,.slice a2 e.data.length c2] rfl) hb1
 obtain⟨x0,x1,l1⟩:=e_blk B1
 have hbw1:Below w.heap.size w w1:=by (repeat (first | with_reducible exact Below.refl _ _ | with_reducible assumption | (with_reducible refine below_alloc ?_ _) | (with_reducible refine Below.setCell ?_ (by first | omega | (simp;done) | (simp;omega)) _) | (with_reducible refine Below.drew ?_) | (with_reducible refine below_drewN ?_ _) | (refine below_then (by with_reducible assumption) ?_)))
 have hgl:=HP.out.blk.lt
 have HLT:=hid (fun q (hq:PenF g a q)=>(HP.out.own_lt hq).2)
 have HB1:=hid B1
 clear B1 hb1
 go_wp2_with fail
 refine (HPT.out _ hbw1).mono ?_
 rintro r w2 ⟨rfl,a3,c3,hp2,ht2,ha2⟩
 have B2:=HB1.out.tch ht2 (fun hf=>by have:=HLT.out _ hf;omega)
 obtain⟨y0,y1,l2⟩:=e_blk B2
 have HV:=hid (varint_put w2 hp2 e.data.length (by omega) (by simp only[List.length_append];omega) (by simp only[List.length_append];omega))
 have HT:=hid (And.intro ht2 ha2)
 clear B2 hp2 ht2 ha2 x0 x1
 go_wp2_with fail
 refine HV.out.mono ?_
 rintro r w3 ⟨rfl,hst⟩
 have hn:=PenStep.later hbw1 (PenStep.trans (J:=J) HT.out.1 HT.out.2 hst)
 rw[List.append_assoc] at hn
 have HN:=hid hn
 clear hst hn
 go_wp2
 first | go_end0 | refine bodyPost_ret (results_none rfl _ _ _) rfl ?_
 exact⟨rfl,HN.out⟩
theorem epoch_put0(w:World){g base most:Nat}{J:List UInt8}{a:Option Addr}{c:Nat}(h:PenAt w g base most J a c)(x:Nat)(hx:x<18446744073709551616)(hfit:J.length+(varB x).length≤most)(hlen:J.length+(varB x).length≤100000000000000):
  Calls Tryz.prog 322 #[.pointer (some ⟨g,0,none⟩),.int .u64 x,.bool true] w fun r w'=>r=.returned (.tuple #[])∧PenStep w g base most (J++varB x) a w':=by
 have HV:=hid (varint_put w h x hx hfit hlen)
 clear h
 go_enter Tryz.func322,Tryz.ntmps322
 go_wp2_with fail
 refine HV.out.mono ?_
 rintro r w1 ⟨rfl,hst⟩
 have HST:=hid hst
 clear hst
 go_wp2
 first | go_end0 | refine bodyPost_ret (results_none rfl _ _ _) rfl ?_
 exact⟨rfl,HST.out⟩
theorem epoch_put(w:World){g base most:Nat}{J:List UInt8}{a:Option Addr}{c:Nat}(h:PenAt w g base most J a c)(x:Nat)(hx:epR (x:Int)=true)(hfit:J.length+(varB x).length≤most)(hlen:J.length+(varB x).length≤100000000000000):
  Calls Tryz.prog 224 #[.pointer (some ⟨g,0,none⟩),.int .u64 x] w fun r w'=>r=.returned (.tuple #[])∧PenStep w g base most (J++varB x) a w':=by
 have hx':=hx
 simp only[epR,decide_eq_true_eq] at hx'
 have HR:=hid (epoch_right (x:Int) w)
 rw[hx] at HR
 have HV:=hid (epoch_put0 w h x (by omega) hfit hlen)
 clear h hx hx'
 go_enter Tryz.func224,Tryz.ntmps224
 go_wp2_with fail
 refine HR.out.mono ?_
 rintro r w1 ⟨rfl,rfl⟩
 go_wp2_with fail
 refine HV.out.mono ?_
 rintro r w1 ⟨rfl,hst⟩
 have HST:=hid hst
 clear hst
 go_wp2
 first | go_end0 | refine bodyPost_ret (results_none rfl _ _ _) rfl ?_
 exact⟨rfl,HST.out⟩
theorem epoch_putpos(w:World){g base most:Nat}{J:List UInt8}{a:Option Addr}{c:Nat}(h:PenAt w g base most J a c)(x:Nat)(hx:poR (x:Int)=true)(hfit:J.length+(varB x).length≤most)(hlen:J.length+(varB x).length≤100000000000000):
  Calls Tryz.prog 225 #[.pointer (some ⟨g,0,none⟩),.int .u64 x] w fun r w'=>r=.returned (.tuple #[])∧PenStep w g base most (J++varB x) a w':=by
 have hx':=hx
 simp only[poR,decide_eq_true_eq] at hx'
 have HR:=hid (epoch_pos (x:Int) w)
 rw[hx] at HR
 have HV:=hid (epoch_put0 w h x (by omega) hfit hlen)
 clear h hx hx'
 go_enter Tryz.func225,Tryz.ntmps225
 go_wp2_with fail
 refine HR.out.mono ?_
 rintro r w1 ⟨rfl,rfl⟩
 go_wp2_with fail
 refine HV.out.mono ?_
 rintro r w1 ⟨rfl,hst⟩
 have HST:=hid hst
 clear hst
 go_wp2
 first | go_end0 | refine bodyPost_ret (results_none rfl _ _ _) rfl ?_
 exact⟨rfl,HST.out⟩
theorem b_blk{w:World}{g:Nat}{t:TypeId}{v0 v1 v2:Value}(h:Blk w g t #[v0,v1,v2]):w.cell? ⟨g,0,none⟩=some v0∧w.cell? ⟨g,1,none⟩=some v1∧w.cell? ⟨g,2,none⟩=some v2∧w.frozen? ⟨g,0,none⟩=false∧w.frozen? ⟨g,1,none⟩=false∧w.frozen? ⟨g,2,none⟩=false∧g<w.heap.size:=
 ⟨h.cell 0,h.cell 1,h.cell 2,h.free 0,h.free 1,h.free 2,h.lt⟩
theorem empty_bytes2{S:Nat→Prop}{w:World}{a:Option Addr}{m c:Nat}{l:List UInt8}(hl:l=[])(hm:m=0)(hc:c≤9223372036854775807):rBytes.r S w [.slice a m c] l:=by
 subst hl hm
 exact rSl_mk (xs:=[]) rfl (Nat.zero_le _) hc (.inl rfl)
theorem pen_fail(w:World){g base most:Nat}{J:List UInt8}{a:Option Addr}{c:Nat}(h:PenAt w g base most J a c)(k:Int):
  Calls Tryz.prog 314 #[.pointer (some ⟨g,0,none⟩),.int .i64 k] w fun r w'=>r=.returned (.tuple #[])∧Blk w' g 280 #[.int .i64 most,.slice a J.length c,.int .i64 k]∧Tch (·=g) w w':=by
 have HC:=hid (pen_code w h)
 have HB:=hid h.blk
 have c2:w.cell? ⟨g,2,none⟩=some (.int .i64 0):=h.blk.cell 2
 have f2:=h.blk.free 2
 have hgl:=h.blk.lt
 clear h
 go_enter Tryz.func314,Tryz.ntmps314
 go_wp2_with fail
 refine HC.out.mono ?_
 rintro r w1 ⟨rfl,rfl⟩
 go_wp2
 first | go_end0 | refine bodyPost_ret (results_none rfl _ _ _) rfl ?_
 exact⟨rfl,HB.out.set 2 _,Tch.setCell (F:=(·=g)) (p:=⟨g,2,none⟩) (Tch.refl _ _) (fun _=>rfl) _⟩
theorem pen_bytes_bad(w:World){g:Nat}{v0 v1:Value}{k:Int}(hk:k≠0)(h:Blk w g 280 #[v0,v1,.int .i64 k]):
  Calls Tryz.prog 110 #[.pointer (some ⟨g,0,none⟩)] w fun r w'=>r=.returned (.tuple #[.slice none 0 0,.int .i64 k])∧w=w':=by
 have HC:Hid (Calls Tryz.prog 212 #[.pointer (some ⟨g,0,none⟩)] w fun r w'=>r=.returned (.int .i64 k)∧w=w'):=hid (by
  have c2:w.cell? ⟨g,2,none⟩=some (.int .i64 k):=h.cell 2
  clear h
  go_enter Tryz.func212,Tryz.ntmps212
  go_wp2
  go_ret
  exact⟨rfl,rfl⟩)
 have d1:(k==(0:Int))=false:=by simp[hk]
 have d2:(k !=(0:Int))=true:=by simp[hk]
 clear h hk
 go_enter Tryz.func110,Tryz.ntmps110
 go_wp2_with fail
 refine HC.out.mono ?_
 rintro r w1 ⟨rfl,rfl⟩
 go_wp2
 go_ret2
 exact⟨rfl,rfl⟩
theorem own_make{base:Nat}{e:TypeId}{size:Nat}{W:World}{g cap:Nat}{cs:Array Value}(h:Blk W g e cs)(hb:base≤g)(hc:cap≤maxLen)(hs:cs.size=cap*size):W.ownsRow base e size (.slice (some ⟨g,0,none⟩) 0 cap) 0 []:=
 ⟨by simp,.inr ⟨g,cap,cs,rfl,hb,h,Nat.zero_le _,hc,by simpa using hs,by simp⟩⟩
theorem entry_join(l:List Entry)(a:Option Addr)(n c:Nat)(w:World)(hl:rEntries.r (·<w.heap.size) w [.slice a n c] l)(ht:total l≤1000000000000):
  Calls Tryz.prog 381 #[.slice a n c] w fun r w'=>∃v,r=.returned v∧rBytes.r (fun q=>w.heap.size≤q∧q<w'.heap.size) w' [v] (joined l)∧Below w.heap.size w w':=by
 obtain⟨rfl,hm,_,_⟩:=sl_len hl
 obtain⟨i0,hi,hz0,hz1,hz2⟩:=info_parts info8
 have HT:=hid (entry_total l a _ c w hl ht)
 have HL:=hid hl;clear hl
 obtain⟨T,hT⟩:∃T,T=total l:=⟨_,rfl⟩
 have hmk:∀W:World,(Instr.makeSlice 22 (.int .i64 0) (.int .i64 (T:Int))).run Tryz.prog W=.ok (.slice (some ⟨W.heap.size,0,none⟩) 0 T) (W.alloc (.cells (madeCells #[Value.int .u8 0] T) 5)):=fun W=>by
  have:=run_make (P:=Tryz.prog) (w:=W) 22 5 i0 (.int .u8 0) Tryz.underlying22 hi hz0 .i64 .i64 0 (T:Int) (by omega) (by omega) (by rw[hz2];omega) (by omega)
  rw[hz1] at this
  simp only[Int.toNat_natCast,Int.toNat_zero,Nat.mul_one] at this
  exact this
 have HJ:=hid (joined_length l)
 rw[←hT] at HT
 have hTt:=hid hT
 have hTb:T≤1000000000000:=by omega
 clear hT
 go_enter Tryz.func381,Tryz.ntmps381
 go_wp2_with fail
 refine HT.out.mono ?_
 rintro r w1 ⟨rfl,hb1⟩
 go_wp2_with fail
 have hbW:Below w1.heap.size w1 (w1.alloc (.cells (madeCells #[Value.int .u8 0] T) 5)):=by (repeat (first | with_reducible exact Below.refl _ _ | with_reducible assumption | (with_reducible refine below_alloc ?_ _) | (with_reducible refine Below.setCell ?_ (by first | omega | (simp;done) | (simp;omega)) _) | (with_reducible refine Below.drew ?_) | (with_reducible refine below_drewN ?_ _) | (refine below_then (by with_reducible assumption) ?_)))
 have hown0:(w1.alloc (.cells (madeCells #[Value.int .u8 0] T) 5)).ownsRow w.heap.size 5 1 (.slice (some ⟨w1.heap.size,0,none⟩) 0 T) 0 []:=own_make (Blk.newAt _ _ _ rfl) hb1.size (by simp only[maxLen];omega) (by rw[size_madeCells];omega)
 have HOWN0:=hid hown0
 have HBW:=hid hbW
 clear hown0 hbW
 generalize w1.alloc (.cells (madeCells #[Value.int .u8 0] T) 5)=W at*
 go_loopw [3,11] (fun v i wr=>∃k:Nat,k≤l.length∧i=.int .i64 k∧wr.ownsRow w.heap.size 5 1 v (total (l.take k)) (byteCells (joined (l.take k)))∧Below w.heap.size w wr) (fun _ i _=>l.length-(intOf i).toNat)
 case atStart=>exact ⟨0,Nat.zero_le _,rfl,by simpa [total,joined,byteCells] using HOWN0.out,below_then HBW.out hb1⟩
 case round=>
  obtain⟨k,hk,rfl,hown,hb⟩:=hrel
  obtain⟨av,cv,rfl⟩:=own_form hown
  by_cases hlt:k<l.length
  ·obtain⟨b,o,hA,hbb,a1,c1,a2,c2,hc0,hc1,_,hd⟩:=entry_at (lift HL.out hb) hlt
   subst hA
   have hbl:b<wr.heap.size:=World.block_lt_of_cell? _ _ hc0
   have hs:=hid (total_step l k hlt)
   have hj:=hid (joined_step l k hlt)
   have h1:=total_take_le l (k+1)
   rw[hs.out,←hTt.out] at h1
   have hbW2:Below wr.heap.size wr (wr.alloc (.cells #[.slice a1 l[k].links.length c1,.slice a2 l[k].data.length c2] 84)):=by (repeat (first | with_reducible exact Below.refl _ _ | with_reducible assumption | (with_reducible refine below_alloc ?_ _) | (with_reducible refine Below.setCell ?_ (by first | omega | (simp;done) | (simp;omega)) _) | (with_reducible refine Below.drew ?_) | (with_reducible refine below_drewN ?_ _) | (refine below_then (by with_reducible assumption) ?_)))
   have hsrc:=src_bytes (lift hd hbW2)
   have hone:=byteCells_one l[k].data
   have HO:=hid (own_below hown hbW2)
   have hbz:Below w.heap.size wr (wr.alloc (.cells #[.slice a1 l[k].links.length c1,.slice a2 l[k].data.length c2] 84)):=hbW2.mono hb.size
   generalize l[k].data=D at*
   generalize l[k].links=LK at*
   generalize joined (l.take k)=J at*
   generalize total (l.take k)=t at*
   have HSRC:=hid hsrc;clear hsrc hd
   have HONE:=hid hone;clear hone hown hbW2
   have hbs:=hb.size
   have i1:(k:Int)<(l.length:Int):=by omega
   have d1:decide ((k:Int)<(l.length:Int))=true:=decide_eq_true i1
   have HBZ:=hid hbz
   clear hbz
   go_wp2_with (at_builtin;go_loud (refine wpList_append_src rfl _ _ _ rfl w.heap.size 5 i0 (.int .u8 0) 1 1 Tryz.underlying22 hi hz0 hz1 hz2 rfl (by decide) (.slice av t cv) t _ rfl HO.out a2 D.length c2 (byteCells D) rfl HSRC.out HONE.out (by simp only[maxLen];omega) (by omega) (by simp;omega) ?_;intro v' w3 hown3 hgrow3 hat3;obtain⟨a3,c3,rfl⟩:=own_form hown3;have HO3:=hid hown3;have hb3:Below w.heap.size wr w3:=(Below.grown HBZ.out hgrow3 (by simp;omega) (fun g e=>(HO.out.lt g e).1));clear hown3 hgrow3 hat3))
   have ho3:=HO3.out
   have HO4:Hid (w3.ownsRow w.heap.size 5 1 (.slice a3 (t+D.length) c3) (total (l.take (k+1))) (byteCells (joined (l.take (k+1))))):=hid (by rw[hs.out,hj.out,byteCells,List.map_append];exact ho3)
   clear ho3 hc0 hc1
   go_roundw
   case rel=>exact ⟨k+1,by omega,by go_num,HO4.out,hb.trans hb3⟩
   case measure=>simp [intOf];omega
  ·obtain rfl:k=l.length:=by omega
   have d1:decide ((l.length:Int)<(l.length:Int))=false:=decide_eq_false (by omega)
   rw[List.take_length] at hown ⊢
   have HV:=hid (own_bytes2 (joined_length l).symm hown)
   clear hown
   go_wp2
   go_ret
   exact⟨_,rfl,HV.out,hb⟩
theorem entriesR_at:∀(l:List Entry) (p:Int) (k:Nat) (h:k<l.length),entriesR p l=true→entryR (p+k) l[k]=true
 | [],p,k,h,_=>by simp at h
 | e::l,p,0,h,hR=>by simp only[entriesR,Bool.and_eq_true] at hR;simpa using hR.1
 | e::l,p,k+1,h,hR=>by
  simp only[entriesR,Bool.and_eq_true] at hR
  have:=entriesR_at l (p+1) k (by simpa using h) hR.2
  rw[List.getElem_cons_succ,show p+((k+1:Nat):Int)=p+1+(k:Int) by omega]
  exact this
theorem headsB_step:∀(l:List Entry) (p:Int) (k:Nat) (h:k<l.length),headsB p (l.take (k+1))=headsB p (l.take k)++headB (p+k) l[k]
 | [],p,k,h=>by simp at h
 | e::l,p,0,h=>by simp[headsB]
 | e::l,p,k+1,h=>by
  have:=headsB_step l (p+1) k (by simpa using h)
  simp only[List.take_succ_cons,headsB,List.getElem_cons_succ]
  rw[this,show p+((k+1:Nat):Int)=p+1+(k:Int) by omega,List.append_assoc]
theorem headsB_le(l:List Entry)(p:Int):∀k,(headsB p (l.take k)).length≤(headsB p l).length:=by
 intro k
 induction l generalizing p k with
 | nil=>simp
 | cons e l ih=>
  cases k with
  | zero=>simp [headsB]
  | succ k=>simp only[List.take_succ_cons,headsB,List.length_append];have:=ih (p+1) k;omega
structure TameE(l:List Entry):Prop where
 len:l.length≤1000
 tot:total l≤10000000
 backs:∀e∈l,∀x∈e.links,x.backs.length≤1000000
theorem TameE.fair{l:List Entry}(h:TameE l):Fair l:=⟨by have:=h.tot;omega,by have:=h.len;omega,fun e he x hx=>by have:=h.backs e he x hx;omega⟩
theorem batch_room(w:World)(b:Batch)(a:Option Addr)(n c:Nat)(h0:0≤b.epoch∧b.epoch≤18446744073709551615)(h1:0≤b.base∧b.base≤18446744073709551615)(hl:rEntries.r (·<w.heap.size) w [.slice a n c] b.entries)(ht:TameE b.entries):
  Calls Tryz.prog 332 #[.agg #[.int .u64 b.epoch,.int .u64 b.base,.slice a n c]] w fun r w'=>∃M:Nat,r=.returned (.int .i64 (M:Int))∧M≤100000000∧(batchR b=true→40+(varB (total b.entries)).length+total b.entries+(headsB b.base b.entries).length≤M)∧Below w.heap.size w w':=by
 obtain⟨rfl,hm,_,_⟩:=sl_len hl
 have hle:=ht.len
 have hto:=ht.tot
 have HTO:=hid (fun (W:World) (hW:Below w.heap.size w W)=>entry_total b.entries a _ c W (lift hl hW) (by omega))
 have HBS:=hid (fun (W:World)=>blob_size (total b.entries) (by omega) W)
 have hvb:=(varB_len (total b.entries)).1
 have HBK:=hid ht.backs
 have HRE:=hid (fun (h:batchR b=true) (k:Nat) (hk:k<b.entries.length)=>(by simp only[batchR,Bool.and_eq_true] at h;exact⟨entriesR_at b.entries b.base k hk h.2.2.2,by have:=h.2.1;simp only[fitsR,decide_eq_true_eq] at this;omega⟩:entryR (b.base+k) b.entries[k]=true∧b.base+b.entries.length≤4611686018427387904))
 have HHS:=hid (fun (k:Nat) (hk:k<b.entries.length)=>headsB_step b.entries b.base k hk)
 have HL:=hid hl
 obtain⟨ep,bs,l⟩:=b
 dsimp only at*
 generalize hRR:batchR ⟨ep,bs,l⟩=R at*
 generalize varB (total l)=VT at*
 generalize total l=T at*
 clear hl ht hRR
 go_enter Tryz.func332,Tryz.ntmps332
 go_wp2_with fail
 refine (HTO.out _ (by (repeat (first | with_reducible exact Below.refl _ _ | with_reducible assumption | (with_reducible refine below_alloc ?_ _) | (with_reducible refine Below.setCell ?_ (by first | omega | (simp;done) | (simp;omega)) _) | (with_reducible refine Below.drew ?_) | (with_reducible refine below_drewN ?_ _) | (refine below_then (by with_reducible assumption) ?_))))).mono ?_
 rintro r w1 ⟨rfl,hb1⟩
 have B1:=Blk.later (Blk.newAt w 60 #[.int .u64 ep,.int .u64 bs,.slice a l.length c] rfl) hb1
 have hbw1:Below w.heap.size w w1:=by (repeat (first | with_reducible exact Below.refl _ _ | with_reducible assumption | (with_reducible refine below_alloc ?_ _) | (with_reducible refine Below.setCell ?_ (by first | omega | (simp;done) | (simp;omega)) _) | (with_reducible refine Below.drew ?_) | (with_reducible refine below_drewN ?_ _) | (refine below_then (by with_reducible assumption) ?_)))
 clear hb1
 go_wp2_with fail
 refine (HBS.out _).mono ?_
 rintro r w2 ⟨rfl,hb2⟩
 have B2:=B1.later hb2
 have hbw2:=below_then hb2 hbw1
 obtain⟨x0,x1,x2,_,_,_,l2⟩:=b_blk B2
 have HB2:=hid B2
 clear B1 hb2 B2
 go_wp2_with fail
 clear x0 x1 x2
 go_loopw [3,14] (fun m i wr=>∃k M:Nat,k≤l.length∧i=.int .i64 k∧m=.int .i64 M∧M≤20000000+1000*k∧Hid (R=true→40+VT.length+T+(headsB bs (l.take k)).length≤M)∧Below w2.heap.size w2 wr) (fun _ i _=>l.length-(intOf i).toNat)
 case atStart=>exact ⟨0,40+(VT.length+T),Nat.zero_le _,rfl,by go_num,by omega,hid (fun _=>by simp[headsB];omega),Below.refl _ _⟩
 case round=>
  obtain⟨k,M,hk,rfl,rfl,hM,hMM,hb⟩:=hrel
  have hbw:=below_then hb hbw2
  have B3:=HB2.out.later hb
  obtain⟨x0,x1,x2,_,_,_,l3⟩:=b_blk B3
  by_cases hlt:k<l.length
  ·obtain⟨b,o,hA,hbb,a1,c1,a2,c2,y0,y1,hlk,hd⟩:=entry_at (lift HL.out hbw) hlt
   subst hA
   have hbl:b<wr.heap.size:=World.block_lt_of_cell? _ _ y0
   have i1:(k:Int)<(l.length:Int):=by omega
   have d1:decide ((k:Int)<(l.length:Int))=true:=decide_eq_true i1
   have hbk:=HBK.out l[k] (List.getElem_mem hlt)
   have HHZ:=hid (fun (W:World) (hW:Below wr.heap.size wr W) (pos:Int) (hp:0≤pos∧pos≤18446744073709551615)=>entry_headsize W pos hp l[k] a1 a2 _ c1 _ c2 (lift hlk hW) (lift hd hW) hbk)
   have hHN:=hid (fun pos=>headN_le pos l[k])
   have hst:=HHS.out k hlt
   have HX:=hid (fun (h:R=true)=>(by
    obtain⟨h1,h2⟩:=HRE.out h k hlt
    refine⟨?_,by omega⟩
    unfold headN
    rw[if_pos h1]:headN (bs+k) l[k]=(headB (bs+k) l[k]).length∧bs+k≤18446744073709551615))
   have HSTP:Hid (∀m,m=(headB (bs+k) l[k]).length→(headsB bs (l.take (k+1))).length=(headsB bs (l.take k)).length+m):=hid (fun m e=>by rw[hst,List.length_append,e])
   generalize l[k]=y at*
   clear hst hlk hd hbk
   by_cases hwr:bs+(k:Int)≤18446744073709551615
   ·have HZ2:=hid (fun (W:World) (hW:Below wr.heap.size wr W)=>HHZ.out W hW (bs+k) (by omega))
    have hn:=hHN.out (bs+k)
    generalize hN:headN (bs+(k:Int)) y=N at*
    have HN:=hid hN
    clear hN
    go_wp2_with fail
    refine (HZ2.out _ (by (repeat (first | with_reducible exact Below.refl _ _ | with_reducible assumption | (with_reducible refine below_alloc ?_ _) | (with_reducible refine Below.setCell ?_ (by first | omega | (simp;done) | (simp;omega)) _) | (with_reducible refine Below.drew ?_) | (with_reducible refine below_drewN ?_ _) | (refine below_then (by with_reducible assumption) ?_))))).mono ?_
    rintro r w5 ⟨rfl,hb5⟩
    have hbw5:Below w2.heap.size w2 w5:=by (repeat (first | with_reducible exact Below.refl _ _ | with_reducible assumption | (with_reducible refine below_alloc ?_ _) | (with_reducible refine Below.setCell ?_ (by first | omega | (simp;done) | (simp;omega)) _) | (with_reducible refine Below.drew ?_) | (with_reducible refine below_drewN ?_ _) | (refine below_then (by with_reducible assumption) ?_)))
    go_wp2
    go_roundw
    case rel=>
     refine⟨k+1,M+N,by omega,by go_num,by go_num,by omega,hid (fun h=> ?_),hbw5⟩
     have e1:=hMM.out h
     have e2:=HSTP.out N (HX.out h).1
     omega
    case measure=>simp [intOf];omega
   ·obtain⟨p',hp',hpb⟩:∃p':Int,IntKind.u64.wrap (bs+(k:Int))=p'∧0≤p'∧p'≤18446744073709551615:=⟨_,rfl,by simp only[IntKind.wrap_u64];omega⟩
    have HZ2:=hid (fun (W:World) (hW:Below wr.heap.size wr W)=>HHZ.out W hW p' hpb)
    have hn:=hHN.out p'
    generalize headN p' y=N at*
    have HPP:=hid hp'
    have HWR:=hid hwr
    clear hp' hwr
    go_wp2_with fail
    rw[HPP.out]
    refine (HZ2.out _ (by (repeat (first | with_reducible exact Below.refl _ _ | with_reducible assumption | (with_reducible refine below_alloc ?_ _) | (with_reducible refine Below.setCell ?_ (by first | omega | (simp;done) | (simp;omega)) _) | (with_reducible refine Below.drew ?_) | (with_reducible refine below_drewN ?_ _) | (refine below_then (by with_reducible assumption) ?_))))).mono ?_
    rintro r w5 ⟨rfl,hb5⟩
    have hbw5:Below w2.heap.size w2 w5:=by (repeat (first | with_reducible exact Below.refl _ _ | with_reducible assumption | (with_reducible refine below_alloc ?_ _) | (with_reducible refine Below.setCell ?_ (by first | omega | (simp;done) | (simp;omega)) _) | (with_reducible refine Below.drew ?_) | (with_reducible refine below_drewN ?_ _) | (refine below_then (by with_reducible assumption) ?_)))
    go_wp2
    go_roundw
    case rel=>exact ⟨k+1,M+N,by omega,by go_num,by go_num,by omega,hid (fun h=>absurd (HX.out h).2 (by have:=HWR.out;omega)),hbw5⟩
    case measure=>simp [intOf];omega
  ·obtain rfl:k=l.length:=by omega
   have d1:decide ((l.length:Int)<(l.length:Int))=false:=decide_eq_false (by omega)
   have hfin:Hid (R=true→40+VT.length+T+(headsB bs l).length≤M):=hid (fun h=>by have:=hMM.out h;rwa [List.take_length] at this)
   clear x0 x1 x2
   go_wp2
   go_ret
   exact⟨M,rfl,by omega,hfin.out,hbw⟩
def OwnB(w:World)(base:Nat)(v:Value)(L:List UInt8):Prop:=w.ownsRow base 5 1 v L.length (byteCells L)
theorem byteCells_app3(l l':List UInt8):byteCells l++byteCells l'=byteCells (l++l'):=by simp[byteCells]
theorem OwnB.app{w:World}{base:Nat}{v:Value}{L D:List UInt8}(h:w.ownsRow base 5 1 v (L.length+D.length) (byteCells L++byteCells D)):OwnB w base v (L++D):=by
 unfold OwnB
 rw[List.length_append,←byteCells_app3]
 exact h
theorem OwnB.low{w:World}{b b':Nat}{v:Value}{L:List UInt8}(h:OwnB w b v L)(hb:b'≤b):OwnB w b' v L:=by
 obtain⟨h1,h2⟩:=h
 refine⟨h1,?_⟩
 rcases h2 with h2 | ⟨g,cap,cur,e1,e2,e3⟩
 ·exact .inl h2
 ·exact .inr ⟨g,cap,cur,e1,by omega,e3⟩
theorem OwnB.read{w:World}{b:Nat}{v:Value}{L:List UInt8}(h:OwnB w b v L):rBytes.r (fun q=>b≤q∧q<w.heap.size) w [v] L:=own_bytes2 rfl h
theorem OwnB.form{w:World}{b:Nat}{v:Value}{L:List UInt8}(h:OwnB w b v L):∃a c,v=.slice a L.length c:=own_form h
theorem pen_bytes_own(w:World){g base most:Nat}{J:List UInt8}{a:Option Addr}{c:Nat}(h:PenAt w g base most J a c):
  Calls Tryz.prog 110 #[.pointer (some ⟨g,0,none⟩)] w fun r w'=>∃v,r=.returned (.tuple #[v,.int .i64 0])∧OwnB w' w.heap.size v J∧Below w.heap.size w w':=by
 obtain⟨i0,hi,hz0,hz1,hz2⟩:=info_parts info8
 have HC:=hid (pen_code w h)
 have hB:=own_bytes2 rfl h.own
 obtain⟨_,hm,_,_⟩:=sl_len hB
 have HD:=hid (rBytes.mono hB (S':=(·<w.heap.size)) fun q hq=>hq.2)
 have HONE:=hid (byteCells_one J)
 have c1:w.cell? ⟨g,1,none⟩=some (.slice a J.length c):=h.blk.cell 1
 have hg1:=h.blk.lt
 have hle:=h.le;have hmo:=h.most;have hle14:=h.len
 clear h hB
 go_enter Tryz.func110,Tryz.ntmps110
 go_wp2_with fail
 refine HC.out.mono ?_
 rintro r w0 ⟨rfl,rfl⟩
 go_wp2_with (at_builtin;go_loud (refine wpList_append_src rfl _ _ _ rfl w.heap.size 5 i0 (.int .u8 0) 1 1 Tryz.underlying22 hi hz0 hz1 hz2 rfl (by decide) _ 0 [] rfl (own_empty _ (Nat.le_refl _) rfl) a J.length c (byteCells J) rfl (src_bytes (lift HD.out (by (repeat (first | exact Below.refl _ _ | assumption | (refine below_alloc ?_ _) | (refine Below.setCell ?_ (by first | omega | (simp;done) | (simp;omega)) _) | (refine Below.drew ?_) | (refine below_drewN ?_ _) | (refine below_then (by assumption) ?_)))))) HONE.out (by simp only[maxLen];omega) (by omega) (by simp) ?_;intro v' w1 hown1 hgrow1 hat1;rw[Nat.zero_add,List.nil_append] at hown1;obtain⟨a',c',rfl⟩:=own_form hown1;have HG:=hid hgrow1;have HO:=hid hown1;clear hgrow1 hown1 hat1))
 have hb1:Below w.heap.size w w1:=Below.grown (by (repeat (first | exact Below.refl _ _ | assumption | (refine below_alloc ?_ _) | (refine Below.setCell ?_ (by first | omega | (simp;done) | (simp;omega)) _) | (refine Below.drew ?_) | (refine below_drewN ?_ _) | (refine below_then (by assumption) ?_)))) HG.out (by simp) (fun g e=>by
  have e':some w.heap.size=some g:=e
  injection e' with e'
  omega)
 go_ret2
 exact⟨_,rfl,HO.out,hb1⟩
theorem bytesWorld_below(w:World)(e:TypeId)(s:ByteArray):Below w.heap.size w (Lib.bytesWorld w e s):=by
 refine⟨?_,?_,?_,?_,fun j hj=>Lib.bytesWorld_at_old w e s j hj⟩
 ·simp[Lib.bytesWorld,World.freeze,World.alloc,World.drew,-World.alloc_eq,-World.drew_eq]
 ·simp[Lib.bytesWorld,World.freeze,World.alloc,World.drew,-World.alloc_eq,-World.drew_eq]
 ·simp[Lib.bytesWorld,World.freeze,World.alloc,World.drew,-World.alloc_eq,-World.drew_eq]
 ·rw[Lib.bytesWorld_size];omega
theorem bytesWorld_row(w:World)(e:TypeId)(s:ByteArray)(hs:s.size≤1000000):
  rBytes.r (fun q=>w.heap.size≤q∧q<(Lib.bytesWorld w e s).heap.size) (Lib.bytesWorld w e s) [.slice (some ⟨w.heap.size,0,none⟩) s.size (grownCap w s.size 0 e)] s.data.toList:=by
 have hn:s.size=s.data.toList.length:=by simp
 refine rSl_mk (xs:=s.data.toList) (c:=grownCap w s.size 0 e) (by rw[←hn]) (hn ▸ grownCap_ge w s.size 0 e) (grownCap_le_maxLen _ _ _ _ (by simp only[maxLen];omega)) (.inr ⟨w.heap.size,0,rfl,⟨Nat.le_refl _,by rw[Lib.bytesWorld_size];omega⟩,fun i x hi=>⟨[.int .u8 (x.toNat:Int)],rfl,fun j v hj=> ?_,rfl⟩⟩)
 have hj0:j=0:=by
  rcases j with _ | j
  ·rfl
  ·simp at hj
 subst hj0
 simp at hj
 subst hj
 have hil:i<s.data.toList.length:=(List.getElem?_eq_some_iff.1 hi).1
 rw[Nat.zero_add,Nat.mul_one,Nat.add_zero,Lib.bytesWorld_cell w e s i (by omega),List.getD_eq_getElem?_getD,hi]
 rfl
theorem pen_text(w:World){g base most:Nat}{J:List UInt8}{a:Option Addr}{c:Nat}(h:PenAt w g base most J a c)(s:ByteArray)(hs:s.size≤1000000)(D:List UInt8)(hD:s.data.toList=D)(hfit:J.length+D.length≤most)(hlen:J.length+D.length≤100000000000000):
  Calls Tryz.prog 354 #[.pointer (some ⟨g,0,none⟩),.string s] w fun r w'=>r=.returned (.tuple #[])∧PenStep w g base most (J++D) a w':=by
 have kc:=fun (W:World)=>Lib.run_convert_string_bytes (P:=Tryz.prog) W 9 22 5 s Tryz.underlying9 Tryz.underlying22 Tryz.underlying5
 have hb:=bytesWorld_below w 5 s
 have hr:=bytesWorld_row w 5 s hs
 rw[hD] at hr
 have HQ:=hid (pen_put (Lib.bytesWorld w 5 s) (h.later hb) D _ _ _ (rBytes.mono hr fun q hq=>hq.2) hfit hlen)
 have HB:=hid hb
 clear hb hr h hD
 go_enter Tryz.func354,Tryz.ntmps354
 go_wp2_with fail
 refine HQ.out.mono ?_
 rintro r w2 ⟨rfl,hst⟩
 have HST:=hid (PenStep.later HB.out hst)
 clear hst
 go_wp2
 first | go_end0 | refine bodyPost_ret (results_none rfl _ _ _) rfl ?_
 exact⟨rfl,HST.out⟩
end Go.Proofs.YtmioakocnebceaaGreat
namespace Go.Bs
open Go.RowKit
theorem varB_len_pow:∀(k x:Nat),x<128^(k+1)→x<18446744073709551616→(varB x).length≤k+1
 | 0,x,h,_=>by rw[varB_small (by simpa using h)];simp
 | k+1,x,h,h2=>by
  by_cases hx:x<128
  ·rw[varB_small hx];simp
  ·rw[varB_step hx h2,List.length_cons]
   have:=varB_len_pow k (x/128) (by rw[Nat.div_lt_iff_lt_mul (by decide)];rw[Nat.pow_succ] at h;exact h) (by omega)
   omega
theorem varB_len9{x:Nat}(h:x<9223372036854775808):(varB x).length≤9:=varB_len_pow 8 x (by simpa using h) (by omega)
def headP(v ep bs:Nat):List UInt8:=[84,72,79,76,UInt8.ofNat v]++(varB ep++(if v=1 then varB bs else []))
def headHB(v ep bs:Nat):List UInt8:=headP v ep bs++fixedB 4 (crcSum (headP v ep bs))
end Go.Bs
namespace Go.Proofs.YtmioakocnebceaaGreat
open Go.RowKit Go.Bs Go.Maps
def PenOk(w1:World)(g most:Nat)(J:List UInt8)(w:World):Prop:=PenStep w1 g g most J none w
theorem PenOk.new{w:World}{g most:Nat}(h:PenAt w g g most [] none 0):PenOk w g most [] w:=PenStep.refl h
theorem PenOk.step{w1 w w':World}{g most:Nat}{J J':List UInt8}(h:PenOk w1 g most J w)(k:∀a c,PenAt w g g most J a c→PenStep w g g most J' a w'):PenOk w1 g most J' w':=by
 obtain⟨a,c,h1,h2,h3⟩:=h
 exact PenStep.trans (J:=J) h2 h3 (k a c h1)
theorem PenOk.at{w1 w:World}{g most:Nat}{J:List UInt8}(h:PenOk w1 g most J w):∃a c,PenAt w g g most J a c∧(∀{J':List UInt8} {w':World},PenStep w g g most J' a w'→PenOk w1 g most J' w')∧(∀q,q<w1.heap.size→q≠g→¬PenF g a q):=by
 obtain⟨a,c,h1,h2,h3⟩:=h
 refine⟨a,c,h1,fun k=>PenStep.trans (J:=J) h2 h3 k,fun q hq hn e=> ?_⟩
 rw[penF_is] at e
 rcases e with e | e
 ·exact hn e
 ·rcases h3 with h3 | ⟨q',h3,h4⟩
  ·rw[h3] at e;cases e
  ·rw[h3] at e;have:=Option.some.inj e;omega
theorem PenOk.later{w1 w w':World}{g most:Nat}{J:List UInt8}(h:PenOk w1 g most J w)(hb:Below w.heap.size w w'):PenOk w1 g most J w':=by
 obtain⟨a,c,h1,k,_⟩:=h.at
 exact k ⟨a,c,h1.later hb,Tch.of_later hb,.inl rfl⟩
theorem PenOk.tch{w1 w:World}{g most:Nat}{J:List UInt8}(h:PenOk w1 g most J w):Tch (·=g) w1 w:=by
 obtain⟨a,c,h1,h2,h3⟩:=h
 refine h2.mono fun q _ e=> ?_
 rw[penF_is] at e
 rcases e with e | e
 ·exact e
 ·cases e
theorem PenOk.blk{w1 w:World}{g most:Nat}{J:List UInt8}(h:PenOk w1 g most J w){b:Nat}{t:TypeId}{cs:Array Value}(hB:Blk w1 b t cs)(hn:b≠g):Blk w b t cs:=hB.tch h.tch hn
theorem PenOk.below{w0 w1 w:World}{g most:Nat}{J:List UInt8}(h:PenOk w1 g most J w)(h0:Below w0.heap.size w0 w1)(hg:w0.heap.size≤g):Below w0.heap.size w0 w:=
 h0.trans (h.tch.to_below h0.size fun b _ e=>by omega)
theorem lit_byte(w:World)(v:Nat)(hv:v<256):rBytes.r (·<(w.alloc (.cells #[.int .u8 (v:Int)] 5)).heap.size) (w.alloc (.cells #[.int .u8 (v:Int)] 5)) [.slice (some ⟨w.heap.size,0,none⟩) 1 1] [UInt8.ofNat v]:=by
 have h:=lit_one w (UInt8.ofNat v)
 rw[←byte_small hv] at h
 exact h
theorem varB_pos9:(varB 4611686018427387903).length=9:=by decide+kernel
theorem header_most(w:World):Calls Tryz.prog 209 #[] w fun r w'=>r=.returned (.int .i64 27)∧Below w.heap.size w w':=by
 have HS:=hid (varint_size 4611686018427387903 (by decide) w)
 rw[varB_pos9] at HS
 go_enter Tryz.func209,Tryz.ntmps209
 go_wp2_with fail
 refine HS.out.mono ?_
 rintro r w1 ⟨rfl,hb1⟩
 go_wp2
 go_ret
 exact⟨rfl,hb1⟩
theorem header_based(v:Int)(w:World):Calls Tryz.prog 269 #[.int .i64 v] w fun r w'=>r=.returned (.bool (decide (v=1)))∧w=w':=by
 by_cases h:v=1
 ·have d1:(v==1)=true:=by simp[h]
  have hff:Hid (decide (v=1)=true):=hid (decide_eq_true h)
  clear h
  go_enter Tryz.func269,Tryz.ntmps269
  go_wp2
  go_ret
  exact⟨by rw[hff.out];first | rfl | simp[d1],rfl⟩
 ·have d1:(v==1)=false:=by simp[h]
  have hff:Hid (decide (v=1)=false):=hid (decide_eq_false h)
  clear h
  go_enter Tryz.func269,Tryz.ntmps269
  go_wp2
  go_ret
  exact⟨by rw[hff.out];first | rfl | simp[d1],rfl⟩
theorem header_plain(v:Nat)(hv:1≤v∧v≤3)(ep bs:Nat)(hep:epR (ep:Int)=true)(hbs:poR (bs:Int)=true)(w:World):
  Calls Tryz.prog 271 #[.agg #[.int .i64 v,.int .u64 ep,.int .u64 bs]] w fun r w'=>∃x,r=.returned x∧rBytes.r (fun q=>w.heap.size≤q∧q<w'.heap.size) w' [x] (headP v ep bs)∧Below w.heap.size w w':=by
 have hep':=hep
 simp only[epR,decide_eq_true_eq] at hep'
 have hbs':=hbs
 simp only[poR,decide_eq_true_eq] at hbs'
 have l1:=varB_len9 (x:=ep) (by omega)
 have l2:=varB_len9 (x:=bs) (by omega)
 have HB:=hid (header_based (v:Int))
 have HN:=hid (fun W:World=>pen_new W 27 (by omega))
 have HT:=hid (fun (W:World) (g:Nat) (h:PenAt W g g 27 [] none 0)=>pen_text W h ⟨#[84,72,79,76]⟩ (by decide) [84,72,79,76] rfl (by decide) (by decide))
 go_enter Tryz.func271,Tryz.ntmps271
 go_wp2_with fail
 refine (header_most _).mono ?_
 rintro r w1 ⟨rfl,hb1⟩
 go_wp2_with fail
 refine (HN.out w1).mono ?_
 rintro r w2 ⟨rfl,hp2,hb2⟩
 have k2:=PenOk.new hp2
 go_wp2_with fail
 refine (HT.out w2 _ hp2).mono ?_
 rintro r w3 ⟨rfl,hs3⟩
 have k3:PenOk w2 w1.heap.size 27 [84,72,79,76] w3:=hs3
 have hz:w.heap.size<w1.heap.size:=by have:=hb1.size;simp at this;omega
 have hz2:=hb2.size
 have hbw2:Below w.heap.size w w2:=below_then hb2 (by (repeat (first | with_reducible exact Below.refl _ _ | with_reducible assumption | (with_reducible refine below_alloc ?_ _) | (with_reducible refine Below.setCell ?_ (by first | omega | (simp;done) | (simp;omega)) _) | (with_reducible refine Below.drew ?_) | (with_reducible refine below_drewN ?_ _) | (refine below_then (by with_reducible assumption) ?_))))
 have hbox:Blk w2 w.heap.size 170 #[.int .i64 v,.int .u64 ep,.int .u64 bs]:=((Blk.new w _ _).later hb1).later hb2
 have HBX:=hid hbox
 have HBW:=hid hbw2
 have K3:=hid k3
 clear hs3 hb1 hb2 hbox hbw2 hp2 k2 k3
 have q3:=K3.out.blk HBX.out (by omega)
 have c0:w3.cell? ⟨w.heap.size,0,none⟩=some (.int .i64 v):=q3.cell 0
 have c1:w3.cell? ⟨w.heap.size,1,none⟩=some (.int .u64 ep):=q3.cell 1
 clear q3
 go_wp2_with fail
 obtain⟨a3,b3,p3,k3,_⟩:=K3.out.at
 have hW:Below w3.heap.size w3 (w3.alloc (.cells #[.int .u8 (v:Int)] 5)):=by (repeat (first | exact Below.refl _ _ | assumption | (refine below_alloc ?_ _) | (refine Below.setCell ?_ (by first | omega | (simp;done) | (simp;omega)) _) | (refine Below.drew ?_) | (refine below_drewN ?_ _) | (refine below_then (by assumption) ?_)))
 have hlit:=lit_byte w3 v (by omega)
 generalize w3.alloc (.cells #[.int .u8 (v:Int)] 5)=W3 at*
 refine (pen_put W3 (p3.later hW) [UInt8.ofNat v] _ 1 1 hlit (by simp) (by simp)).mono ?_
 rintro r w4 ⟨rfl,hs4⟩
 have k4:=k3 (PenStep.later hW hs4)
 have K4:=hid k4
 clear k3 hs4 hW hlit k4 p3
 have q4:=K4.out.blk HBX.out (by omega)
 have c0':w4.cell? ⟨w.heap.size,0,none⟩=some (.int .i64 v):=q4.cell 0
 have c1':w4.cell? ⟨w.heap.size,1,none⟩=some (.int .u64 ep):=q4.cell 1
 have c2':w4.cell? ⟨w.heap.size,2,none⟩=some (.int .u64 bs):=q4.cell 2
 clear q4
 go_wp2_with fail
 obtain⟨a4,b4,p4,k4,_⟩:=K4.out.at
 refine (epoch_put w4 p4 ep hep (by simp;omega) (by simp;omega)).mono ?_
 rintro r w5 ⟨rfl,hs5⟩
 have K5:=hid (k4 hs5)
 clear k4 hs5 p4
 have q5:=K5.out.blk HBX.out (by omega)
 have x0:w5.cell? ⟨w.heap.size,0,none⟩=some (.int .i64 v):=q5.cell 0
 have x2:w5.cell? ⟨w.heap.size,2,none⟩=some (.int .u64 bs):=q5.cell 2
 clear q5 c0 c1 c0' c1' c2'
 by_cases hv1:v=1
 ·have hdd:decide ((v:Int)=1)=true:=by simp;omega
  rw[hdd] at HB
  have hff:Hid (headP v ep bs=[84,72,79,76]++[UInt8.ofNat v]++varB ep++varB bs):=hid (by unfold headP;rw[if_pos hv1];simp)
  clear hdd hv1
  go_wp2_with fail
  refine (HB.out _).mono ?_
  rintro r w6 ⟨rfl,rfl⟩
  go_wp2_with fail
  obtain⟨a5,b5,p5,k5,_⟩:=K5.out.at
  refine (epoch_putpos w5 p5 bs hbs (by simp;omega) (by simp;omega)).mono ?_
  rintro r w7 ⟨rfl,hs7⟩
  have K7:=hid (k5 hs7)
  clear k5 hs7 p5
  go_wp2_with fail
  obtain⟨a7,b7,p7,k7,_⟩:=K7.out.at
  refine (pen_bytes w7 p7).mono ?_
  rintro r w8 ⟨x,rfl,hr,hb8⟩
  have hbw:=K7.out.below HBW.out (by omega)
  have HR:=hid hr
  clear hr k7 p7
  go_wp2
  go_ret
  refine⟨_,rfl,?_,below_then hb8 hbw⟩
  rw[hff.out]
  exact rBytes.mono HR.out fun q hq=>⟨by have:=hbw.size;omega,hq.2⟩
 ·have hdd:decide ((v:Int)=1)=false:=by simp;omega
  rw[hdd] at HB
  have hff:Hid (headP v ep bs=[84,72,79,76]++[UInt8.ofNat v]++varB ep):=hid (by unfold headP;rw[if_neg hv1];simp)
  clear hdd hv1
  go_wp2_with fail
  refine (HB.out _).mono ?_
  rintro r w6 ⟨rfl,rfl⟩
  go_wp2_with fail
  obtain⟨a7,b7,p7,k7,_⟩:=K5.out.at
  refine (pen_bytes w5 p7).mono ?_
  rintro r w8 ⟨x,rfl,hr,hb8⟩
  have hbw:=K5.out.below HBW.out (by omega)
  have HR:=hid hr
  clear hr k7 p7
  go_wp2
  go_ret
  refine⟨_,rfl,?_,below_then hb8 hbw⟩
  rw[hff.out]
  exact rBytes.mono HR.out fun q hq=>⟨by have:=hbw.size;omega,hq.2⟩
def hdrR(v:Int)(ep bs:Int):Bool:=decide (1≤v∧v≤3)&&(epR ep&&(poR bs&&(decide (v=1) || decide (bs=0))))
theorem header_right(v ep bs:Int)(h:hdrR v ep bs=true)(w:World):
  Calls Tryz.prog 313 #[.agg #[.int .i64 v,.int .u64 ep,.int .u64 bs]] w fun r w'=>r=.returned (.bool true)∧Below w.heap.size w w':=by
 simp only[hdrR,Bool.and_eq_true,Bool.or_eq_true,decide_eq_true_eq] at h
 obtain⟨hv,he,hp,hb⟩:=h
 have HE:=hid (epoch_right ep);rw[he] at HE
 have HP:=hid (epoch_pos bs);rw[hp] at HP
 have HB:=hid (header_based v)
 have d1:decide (1≤v)=true:=decide_eq_true hv.1
 have d2:decide (v≤3)=true:=decide_eq_true hv.2
 by_cases hv1:v=1
 ·rw[decide_eq_true hv1] at HB
  clear he hp hb hv hv1
  go_enter Tryz.func313,Tryz.ntmps313
  go_wp2_with fail
  refine (HE.out _).mono ?_
  rintro r w1 ⟨rfl,rfl⟩
  go_wp2_with fail
  refine (HP.out _).mono ?_
  rintro r w1 ⟨rfl,rfl⟩
  go_wp2_with fail
  refine (HB.out _).mono ?_
  rintro r w1 ⟨rfl,rfl⟩
  go_wp2
  go_ret
  exact⟨rfl,by (repeat (first | exact Below.refl _ _ | assumption | (refine below_alloc ?_ _) | (refine Below.setCell ?_ (by first | omega | (simp;done) | (simp;omega)) _) | (refine Below.drew ?_) | (refine below_drewN ?_ _) | (refine below_then (by assumption) ?_)))⟩
 ·rw[decide_eq_false hv1] at HB
  obtain rfl:bs=0:=by omega
  clear he hp hb hv hv1
  go_enter Tryz.func313,Tryz.ntmps313
  go_wp2_with fail
  refine (HE.out _).mono ?_
  rintro r w1 ⟨rfl,rfl⟩
  go_wp2_with fail
  refine (HP.out _).mono ?_
  rintro r w1 ⟨rfl,rfl⟩
  go_wp2_with fail
  refine (HB.out _).mono ?_
  rintro r w1 ⟨rfl,rfl⟩
  go_wp2
  go_ret
  exact⟨rfl,by (repeat (first | exact Below.refl _ _ | assumption | (refine below_alloc ?_ _) | (refine Below.setCell ?_ (by first | omega | (simp;done) | (simp;omega)) _) | (refine Below.drew ?_) | (refine below_drewN ?_ _) | (refine below_then (by assumption) ?_)))⟩
end Go.Proofs.YtmioakocnebceaaGreat
namespace Go.Bs
open Go.RowKit
theorem headP_len{v ep bs:Nat}(h1:(varB ep).length≤9)(h2:(varB bs).length≤9):(headP v ep bs).length≤23:=by
 unfold headP
 simp only[List.length_append,List.length_cons,List.length_nil]
 split<;>(try simp only[List.length_nil])<;>omega
end Go.Bs
namespace Go.Proofs.YtmioakocnebceaaGreat
open Go.RowKit Go.Bs Go.Maps
def frameB(p:List UInt8):List UInt8:=blobB p++fixedB 4 (crcSum p)
theorem frameB_len(p:List UInt8):(frameB p).length=(blobB p).length+4:=by simp[frameB,fixedB_len]
theorem header_put(w:World){g base most:Nat}{J:List UInt8}{a:Option Addr}{c:Nat}(h:PenAt w g base most J a c)(v ep bs:Nat)(hR:hdrR (v:Int) ep bs=true)(hfit:J.length+(headHB v ep bs).length≤most)(hlen:J.length+(headHB v ep bs).length≤100000000000000):
  Calls Tryz.prog 210 #[.pointer (some ⟨g,0,none⟩),.agg #[.int .i64 v,.int .u64 ep,.int .u64 bs]] w fun r w'=>r=.returned (.tuple #[])∧PenStep w g base most (J++headHB v ep bs) a w':=by
 have HR:=hid (header_right v ep bs hR)
 have hR':=hR
 simp only[hdrR,Bool.and_eq_true,Bool.or_eq_true,decide_eq_true_eq] at hR'
 obtain⟨hv,he,hp,_⟩:=hR'
 have HP:=hid (header_plain v (by omega) ep bs he hp)
 have hb:Hid (headHB v ep bs=headP v ep bs++fixedB 4 (crcSum (headP v ep bs))):=hid rfl
 have HPN:=hid h
 have hl:(headHB v ep bs).length=(headP v ep bs).length+4:=by rw[hb.out];simp[fixedB_len]
 rw[hl] at hfit hlen
 have HL:=crcSum_lt (headP v ep bs)
 have HC:=hid (fun (W:World) (a:Option Addr) (n c:Nat) h=>crc_sum (headP v ep bs) a n c W h)
 generalize headHB v ep bs=K at*
 generalize crcSum (headP v ep bs)=s at*
 generalize headP v ep bs=D at*
 clear h hR he hp hv hl
 go_enter Tryz.func210,Tryz.ntmps210
 go_wp2_with fail
 refine (HR.out _).mono ?_
 rintro r w1 ⟨rfl,hb1⟩
 have hbx:Blk w1 w.heap.size 170 #[.int .i64 v,.int .u64 ep,.int .u64 bs]:=(Blk.new w _ _).later hb1
 have hbw1:Below w.heap.size w w1:=by (repeat (first | exact Below.refl _ _ | assumption | (refine below_alloc ?_ _) | (refine Below.setCell ?_ (by first | omega | (simp;done) | (simp;omega)) _) | (refine Below.drew ?_) | (refine below_drewN ?_ _) | (refine below_then (by assumption) ?_)))
 have c0:w1.cell? ⟨w.heap.size,0,none⟩=some (.int .i64 v):=hbx.cell 0
 have c1:w1.cell? ⟨w.heap.size,1,none⟩=some (.int .u64 ep):=hbx.cell 1
 have c2:w1.cell? ⟨w.heap.size,2,none⟩=some (.int .u64 bs):=hbx.cell 2
 clear hbx
 go_wp2_with fail
 refine (HP.out _).mono ?_
 rintro r w2 ⟨x,rfl,hr,hb2⟩
 obtain⟨a2,c2,hv2,hr2,_⟩:=sl_form hr
 simp only[List.cons.injEq,and_true] at hv2
 subst hv2
 have hbw2:=below_then hb2 hbw1
 have hP2:=HPN.out.later hbw2
 have HD:=hid hr2
 have hz2:=hbw1.size
 clear hr hr2
 go_wp2_with fail
 refine (pen_put w2 hP2 D a2 _ c2 (rBytes.mono HD.out fun q hq=>hq.2) (by omega) (by omega)).mono ?_
 rintro r w3 ⟨rfl,a3,c3,p3,t3,h3⟩
 have hs3:=t3.size
 have hno:∀q,w.heap.size≤q→¬PenF g a q:=fun q hq hf=>by have:=(HPN.out.own_lt hf).2;omega
 have HD3:=hid (rBytes.keep HD.out fun q hq=>t3.block q hq.2 (hno q (by omega)))
 have HST:=hid (fun (J':List UInt8) (W:World) (k:PenStep w3 g base most J' a3 W)=>PenStep.later (J':=J') hbw2 (PenStep.trans (J:=J++D) t3 h3 k))
 have P3:=hid p3
 clear p3 t3 h3 hno hP2
 go_wp2_with fail
 refine (HC.out w3 a2 _ c2 (rBytes.mono HD3.out fun q hq=>by have:=hq.2;omega)).mono ?_
 rintro r w4 ⟨rfl,hb4⟩
 have e1:(s:Int)%18446744073709551616=s:=by omega
 go_wp2_with fail
 refine (pen_wfixed w4 (P3.out.later hb4) s (by omega) 4 (by omega) (by simp;omega) (by simp;omega)).mono ?_
 rintro r w5 ⟨rfl,hs5⟩
 have hst:=HST.out _ _ (PenStep.later hb4 hs5)
 rw[List.append_assoc,←hb.out] at hst
 have HST2:=hid hst
 clear hst hs5
 go_wp2
 first | go_end0 | refine bodyPost_ret (results_none rfl _ _ _) rfl ?_
 exact⟨rfl,HST2.out⟩
theorem header_bytes(w:World)(v ep bs:Nat)(hR:hdrR (v:Int) ep bs=true):
  Calls Tryz.prog 105 #[.agg #[.int .i64 v,.int .u64 ep,.int .u64 bs]] w fun r w'=>∃x,r=.returned (.tuple #[x,.int .i64 0])∧OwnB w' w.heap.size x (headHB v ep bs)∧Below w.heap.size w w':=by
 have hR':=hR
 simp only[hdrR,epR,poR,Bool.and_eq_true,Bool.or_eq_true,decide_eq_true_eq] at hR'
 obtain⟨hv,he,hp,_⟩:=hR'
 have hl:(headHB v ep bs).length≤27:=by
  have:=headP_len (v:=v) (varB_len9 (x:=ep) (by omega)) (varB_len9 (x:=bs) (by omega))
  simp only[headHB,List.length_append,fixedB_len]
  omega
 have HN:=hid (fun W:World=>pen_new W 27 (by omega))
 have HP:=hid (fun (W:World) (g:Nat) (h:PenAt W g g 27 [] none 0)=>header_put W h v ep bs hR (by simpa using hl) (by simp;omega))
 generalize headHB v ep bs=K at*
 clear hR hv he hp
 go_enter Tryz.func105,Tryz.ntmps105
 go_wp2_with fail
 refine (header_most _).mono ?_
 rintro r w1 ⟨rfl,hb1⟩
 go_wp2_with fail
 refine (HN.out w1).mono ?_
 rintro r w2 ⟨rfl,hp2,hb2⟩
 have hbox:=((Blk.new w 170 #[.int .i64 v,.int .u64 ep,.int .u64 bs]).later hb1).later hb2
 have c0:w2.cell? ⟨w.heap.size,0,none⟩=some (.int .i64 v):=hbox.cell 0
 have c1:w2.cell? ⟨w.heap.size,1,none⟩=some (.int .u64 ep):=hbox.cell 1
 have c2:w2.cell? ⟨w.heap.size,2,none⟩=some (.int .u64 bs):=hbox.cell 2
 have hbw2:Below w.heap.size w w2:=below_then hb2 (by (repeat (first | with_reducible exact Below.refl _ _ | with_reducible assumption | (with_reducible refine below_alloc ?_ _) | (with_reducible refine Below.setCell ?_ (by first | omega | (simp;done) | (simp;omega)) _) | (with_reducible refine Below.drew ?_) | (with_reducible refine below_drewN ?_ _) | (refine below_then (by with_reducible assumption) ?_))))
 have hz1:w.heap.size<w1.heap.size:=by have:=hb1.size;simp at this;omega
 have HQ:=hid (HP.out w2 _ hp2)
 clear hbox hp2
 go_wp2_with fail
 refine HQ.out.mono ?_
 rintro r w3 ⟨rfl,hs3⟩
 have K3:Hid (PenOk w2 w1.heap.size 27 K w3):=hid hs3
 clear hs3 HQ
 go_wp2_with fail
 obtain⟨a7,b7,p7,k7,_⟩:=K3.out.at
 refine (pen_bytes_own w3 p7).mono ?_
 rintro r w8 ⟨x,rfl,hr,hb8⟩
 have hbw:=K3.out.below hbw2 (by omega)
 have HR:=hid hr
 clear hr k7 p7
 go_wp2
 go_ret2
 exact⟨_,rfl,HR.out.low hbw.size,below_then hb8 hbw⟩
theorem frame_size(n:Nat)(hn:n≤100000000000000)(w:World):
  Calls Tryz.prog 221 #[.int .i64 n] w fun r w'=>r=.returned (.int .i64 ((varB n).length+n+4:Nat))∧Below w.heap.size w w':=by
 have HS:=hid (blob_size n hn w)
 have hl:=varB_len n
 generalize (varB n).length=k at*
 go_enter Tryz.func221,Tryz.ntmps221
 go_wp2_with fail
 refine HS.out.mono ?_
 rintro r w1 ⟨rfl,hb1⟩
 go_wp2
 go_ret
 exact⟨by first | rfl | simp,hb1⟩
theorem frame_put(w:World){g base most:Nat}{J:List UInt8}{a:Option Addr}{c:Nat}(h:PenAt w g base most J a c)(D:List UInt8)(ad:Option Addr)(nd cd:Nat)
  (hD:rBytes.r (fun q=>q<w.heap.size∧¬PenF g a q) w [.slice ad nd cd] D) (hm:D.length≤2097152) (hfit:J.length+(frameB D).length≤most) (hlen:J.length+(frameB D).length≤100000000000000):
  Calls Tryz.prog 222 #[.pointer (some ⟨g,0,none⟩),.slice ad nd cd] w fun r w'=>r=.returned (.tuple #[])∧PenStep w g base most (J++frameB D) a w':=by
 obtain⟨rfl,_,_,_⟩:=sl_len hD
 rw[frameB_len] at hfit hlen
 have d1:decide ((2097152:Int)<(D.length:Int))=false:=decide_eq_false (by omega)
 have HB:=hid (blob_put w h D ad _ cd hD (by omega) (by omega))
 have HC:=hid (fun (W:World) h=>crc_sum D ad D.length cd W h)
 have HL:=crcSum_lt D
 have hb:Hid (frameB D=blobB D++fixedB 4 (crcSum D)):=hid rfl
 have HD:=hid hD
 generalize frameB D=K at*
 generalize crcSum D=s at*
 generalize blobB D=E at*
 clear h hD
 go_enter Tryz.func222,Tryz.ntmps222
 go_wp2_with fail
 refine HB.out.mono ?_
 rintro r w3 ⟨rfl,a3,c3,p3,t3,h3⟩
 have hs3:=t3.size
 have HD3:=hid (rBytes.keep HD.out fun q hq=>t3.block q hq.1 hq.2)
 have HST:=hid (fun (J':List UInt8) (W:World) (k:PenStep w3 g base most J' a3 W)=>PenStep.trans (J:=J++E) t3 h3 k)
 have P3:=hid p3
 clear p3 t3 h3
 go_wp2_with fail
 refine (HC.out w3 (rBytes.mono HD3.out fun q hq=>by have:=hq.1;omega)).mono ?_
 rintro r w4 ⟨rfl,hb4⟩
 have e1:(s:Int)%18446744073709551616=s:=by omega
 go_wp2_with fail
 refine (pen_wfixed w4 (P3.out.later hb4) s (by omega) 4 (by omega) (by simp;omega) (by simp;omega)).mono ?_
 rintro r w5 ⟨rfl,hs5⟩
 have hst:=HST.out _ _ (PenStep.later hb4 hs5)
 rw[List.append_assoc,←hb.out] at hst
 have HST2:=hid hst
 clear hst hs5
 go_wp2
 first | go_end0 | refine bodyPost_ret (results_none rfl _ _ _) rfl ?_
 exact⟨rfl,HST2.out⟩
theorem frame_bytes(w:World)(D:List UInt8)(ad:Option Addr)(nd cd:Nat)(hD:rBytes.r (·<w.heap.size) w [.slice ad nd cd] D)(hm:D.length≤2097152):
  Calls Tryz.prog 115 #[.slice ad nd cd] w fun r w'=>∃x,r=.returned (.tuple #[x,.int .i64 0])∧OwnB w' w.heap.size x (frameB D)∧Below w.heap.size w w':=by
 obtain⟨rfl,_,_,_⟩:=sl_len hD
 have HS:=hid (frame_size D.length (by omega) w)
 have hvl:=varB_len D.length
 have hl:(frameB D).length=(varB D.length).length+D.length+4:=by rw[frameB_len,blobB_len]
 have HN:=hid (fun W:World=>pen_new W ((varB D.length).length+D.length+4) (by omega))
 have HP:=hid (fun (W:World) (g:Nat) (h:PenAt W g g ((varB D.length).length+D.length+4) [] none 0) (h1:rBytes.r (fun q=>q<W.heap.size∧¬PenF g none q) W [.slice ad D.length cd] D)=>frame_put W h D ad _ cd h1 hm (by simp;omega) (by simp;omega))
 have HD:=hid hD
 generalize frameB D=K at*
 generalize (varB D.length).length+D.length+4=M at*
 clear hD
 go_enter Tryz.func115,Tryz.ntmps115
 go_wp2_with fail
 refine HS.out.mono ?_
 rintro r w1 ⟨rfl,hb1⟩
 go_wp2_with fail
 refine (HN.out w1).mono ?_
 rintro r w2 ⟨rfl,hp2,hb2⟩
 have hbw2:Below w.heap.size w w2:=below_then hb2 hb1
 have hz1:=hb1.size
 have hz2:=hb2.size
 have HQ:=hid (HP.out w2 _ hp2 (rBytes.mono (rBytes.keep HD.out fun q hq=>hbw2.block q hq) fun q hq=>⟨by omega,by rw[penF_is];rintro (e | e);omega;cases e⟩))
 clear hp2
 go_wp2_with fail
 refine HQ.out.mono ?_
 rintro r w3 ⟨rfl,hs3⟩
 have K3:Hid (PenOk w2 w1.heap.size M K w3):=hid hs3
 clear hs3 HQ
 go_wp2_with fail
 obtain⟨a7,b7,p7,k7,_⟩:=K3.out.at
 refine (pen_bytes_own w3 p7).mono ?_
 rintro r w8 ⟨x,rfl,hr,hb8⟩
 have hbw:=K3.out.below hbw2 (by omega)
 have HR:=hid hr
 clear hr k7 p7
 go_wp2
 go_ret2
 exact⟨_,rfl,HR.out.low hbw.size,below_then hb8 hbw⟩
def fixN:List UInt8→Nat
 | []=>0
 | b::l=>b.toNat+256*fixN l
theorem fixN_lt:∀l:List UInt8,fixN l<256^l.length
 | []=>by decide
 | b::l=>by
  have h1:=fixN_lt l
  have h2:=b.toNat_lt
  simp only[fixN,List.length_cons,Nat.pow_succ]
  omega
theorem fixN_snoc:∀(l:List UInt8) (b:UInt8),fixN (l++[b])=fixN l+b.toNat*256^l.length
 | [],b=>by simp[fixN]
 | x::l,b=>by
  simp only[List.cons_append,fixN,List.length_cons,fixN_snoc l b,Nat.pow_succ,Nat.mul_add,Nat.add_assoc]
  congr 1
  congr 1
  rw[Nat.mul_comm 256,Nat.mul_assoc]
theorem fixN_fixedB:∀(n x:Nat),fixN (fixedB n x)=x%256^n
 | 0,x=>by simp[fixedB,fixN,Nat.mod_one]
 | n+1,x=>by
  have h:(UInt8.ofNat (x%256)).toNat=x%256:=by rw[UInt8.toNat_ofNat'];omega
  simp only[fixedB,fixN,h,fixN_fixedB n (x/256)]
  rw[Nat.pow_succ,Nat.mul_comm (256^n) 256,Nat.mod_mul]
theorem fixedB_fixN:∀(l:List UInt8),fixedB l.length (fixN l)=l
 | []=>rfl
 | b::l=>by
  have h1:=b.toNat_lt
  have e1:(b.toNat+256*fixN l)%256=b.toNat:=by omega
  have e2:(b.toNat+256*fixN l)/256=fixN l:=by omega
  simp only[List.length_cons,fixedB,fixN,e1,e2,fixedB_fixN l]
  rw[UInt8.ofNat_toNat]
theorem or_byte{i X c:Nat}(hX:X<256^i)(hi:i≤7)(hc:c<256):bits .or .u64 (X:Int) (IntKind.u64.wrap ((c:Int)*2^(8*i)))=((X+c*256^i:Nat):Int):=by
 have h1:(256:Nat)^i=2^(8*i):=by rw[Nat.pow_mul]
 have h2:(256:Nat)^i≤256^7:=Nat.pow_le_pow_right (by decide) hi
 have h3:(256:Nat)^7=72057594037927936:=by decide
 have h4:c*256^i≤255*256^i:=Nat.mul_le_mul_right _ (by omega)
 have e:(c:Int)*2^(8*i)=((c*256^i:Nat):Int):=by
  rw[h1]
  simp
 rw[e,IntKind.wrap_u64,Int.emod_eq_of_lt (by omega) (by omega),bits_or_u64_nat _ _ (by omega) (by omega)]
 rw[h1] at hX ⊢
 rw[Nat.or_comm,←Nat.shiftLeft_eq,←Nat.shiftLeft_add_eq_or_of_lt hX,Nat.add_comm]
theorem blob_readfixed(w:World){g:Nat}{B:List UInt8}{a:Option Addr}{s:Rs}(h:RdAt w g B a s)(hB:B.length≤1000000000)(n:Nat)(hn:n≤8):
  Calls Tryz.prog 186 #[.pointer (some ⟨g,0,none⟩),.int .i64 (n:Int)] w fun r w'=>r=.returned (.int .u64 (fixN (s.take B n).2:Nat))∧RdStep w g B a (s.take B n).1 w':=by
 have HT:=hid (rd_take w h (n:Int) (by omega) (by omega))
 have hlen:(s.take B n).2.length≤n:=by
  unfold Rs.take
  split
  ·simp;omega
  ·simp
 have hlt:=h.blk.lt
 generalize s.take B (n:Int)=T at*
 obtain⟨s1,L⟩:=T
 dsimp only at*
 have n0:(0:Int)≤(n:Int):=by omega
 have n8:(n:Int)≤8:=by omega
 clear h
 go_enter Tryz.func186,Tryz.ntmps186
 go_wp2_with fail
 refine HT.out.mono ?_
 rintro r w1 ⟨v,rfl,hv,hst⟩
 obtain⟨a1,c1,hfv,hv2,_⟩:=sl_form hv
 simp only[List.cons.injEq,and_true] at hfv
 subst hfv
 have HV:=hid hv2
 have HST:=hid hst
 clear hv hv2 hst
 go_wp2_with fail
 go_loopw [5,14] (fun x i wr=>∃j:Nat,j≤L.length∧i=.int .i64 j∧x=.int .u64 ((fixN (L.take j):Nat):Int)∧w1=wr) (fun _ i _=>L.length-(intOf i).toNat)
 case atStart=>exact ⟨0,Nat.zero_le _,rfl,rfl,rfl⟩
 case round=>
  obtain⟨j,hj,rfl,rfl,rfl⟩:=hrel
  by_cases hlt2:j<L.length
  ·have d1:decide ((j:Int)<(L.length:Int))=true:=decide_eq_true (by omega)
   have i1:(j:Int)<(L.length:Int):=by omega
   obtain⟨b,o,rfl,_,hc⟩:=byte_at HV.out hlt2
   have hff:=hid (show fixN (L.take (j+1))=fixN (L.take j)+L[j].toNat*256^j by
    rw[List.take_succ_eq_append_getElem hlt2,fixN_snoc]
    congr 3
    simp
    omega)
   have hX:fixN (L.take j)<256^j:=by
    have:=fixN_lt (L.take j)
    rwa [List.length_take,Nat.min_eq_left hj] at this
   have hb:=L[j].toNat_lt
   have E:=hid (or_byte (c:=L[j].toNat) hX (by omega) (by omega))
   have hXb:fixN (L.take j)<18446744073709551616:=Nat.lt_of_lt_of_le hX (Nat.le_trans (Nat.pow_le_pow_right (by decide) (show j≤7 by omega)) (by decide))
   generalize L[j].toNat=y at*
   generalize fixN (L.take j)=X at*
   clear hX
   have m0:(0:Int)≤8*(j:Int):=by omega
   have m1:8*(j:Int)≤64:=by omega
   go_wp2_with fail
   go_roundw
   case rel=>exact ⟨j+1,by omega,by go_num,by rw[E.out,hff.out],by trivial⟩
   case measure=>(simp[intOf];try omega)
  ·obtain rfl:j=L.length:=by omega
   have d1:decide ((L.length:Int)<(L.length:Int))=false:=decide_eq_false (by omega)
   rw[List.take_length]
   go_wp2_with fail
   go_ret
   exact⟨rfl,HST.out⟩
theorem frame_bound(m:Int)(w:World):Calls Tryz.prog 247 #[.int .i64 m] w fun r w'=>r=.returned (.int .i64 (min m 2097152))∧w=w':=by
 by_cases h:m≤2097152
 ·have e:min m 2097152=m:=by omega
  rw[e]
  clear e
  go_enter Tryz.func247,Tryz.ntmps247
  go_wp2_with fail
  go_ret
  exact⟨rfl,rfl⟩
 ·have e:min m 2097152=2097152:=by omega
  have h':2097152<m:=by omega
  rw[e]
  clear e
  go_enter Tryz.func247,Tryz.ntmps247
  go_wp2_with fail
  go_ret
  exact⟨rfl,rfl⟩
theorem frame_checked{w:World}{g:Nat}{B:List UInt8}{a:Option Addr}{s:Rs}(h:RdAt w g B a s)(D:List UInt8)(ad:Option Addr)(cd:Nat)(hD:rBytes.r (·<w.heap.size) w [.slice ad D.length cd] D)(v:Nat)(p:Int):
  Calls Tryz.prog 304 #[.slice ad D.length cd,.int .u64 (v:Int),.func (Fn.func 149) #[.pointer (some ⟨g,0,none⟩)] #[],.int .i64 p] w fun r w'=>r=.returned (.tuple #[])∧RdStep w g B a (if crcSum D=v then s else s.fail 6 p) w':=by
 have HC:=hid (crc_sum D ad _ cd w hD)
 have hlt:=crcSum_lt D
 have HH:=hid h
 clear h hD
 generalize crcSum D=q at*
 by_cases hq:q=v
 ·rw[if_pos hq]
  subst hq
  have d1:((q:Int) !=(q:Int))=false:=by simp
  go_enter Tryz.func304,Tryz.ntmps304
  go_wp2_with fail
  refine HC.out.mono ?_
  rintro r w1 ⟨rfl,hb⟩
  have HST:=hid (RdStep.later HH.out hb)
  clear hb
  go_wp2_with fail
  first | go_end0 | refine bodyPost_ret (results_none rfl _ _ _) rfl ?_
  exact⟨rfl,HST.out⟩
 ·rw[if_neg hq]
  have d1:((q:Int) !=(v:Int))=true:=by simp;omega
  clear hq
  go_enter Tryz.func304,Tryz.ntmps304
  go_wp2_with fail
  refine HC.out.mono ?_
  rintro r w1 ⟨rfl,hb⟩
  have HST:=hid (RdStep.later HH.out hb)
  have HF:=hid (rd_fail w1 HST.out.1 6 p (by omega))
  clear hb
  go_wp2_with fail
  refine HF.out.mono ?_
  rintro r w2 ⟨rfl,hst⟩
  have HS2:=hid (RdStep.trans HST.out.2 hst)
  clear hst
  go_wp2_with fail
  first | go_end0 | refine bodyPost_ret (results_none rfl _ _ _) rfl ?_
  exact⟨rfl,HS2.out⟩
def Rs.frame(B:List UInt8)(s:Rs)(m:Int):Rs × List UInt8:=
 let b:=s.blob B (min m 2097152)
 let f:=b.1.take B 4
 let r:=if crcSum b.2=fixN f.2 then f.1 else f.1.fail 6 b.1.p
 (r,if r.k=0 then b.2 else [])
theorem frame_read(w:World){g:Nat}{B:List UInt8}{a:Option Addr}{s:Rs}(h:RdAt w g B a s)(hB:B.length≤1000000000)(m:Int)(hm: -9223372036854775808≤m∧m≤9223372036854775807):
  Calls Tryz.prog 192 #[.pointer (some ⟨g,0,none⟩),.int .i64 m] w fun r w'=>∃v,r=.returned v∧rBytes.r (fun q=>w.heap.size≤q∧q<w'.heap.size) w' [v] (s.frame B m).2∧RdStep w g B a (s.frame B m).1 w':=by
 have hlt:=h.blk.lt
 have HBD:=hid (frame_bound m w)
 have HBL:=hid (blob_read w h (by omega) (min m 2097152) (by omega))
 unfold Rs.frame
 dsimp only
 generalize s.blob B (min m 2097152)=P at*
 obtain⟨s1,D⟩:=P
 dsimp only at*
 have HFX:=hid (fun (W:World) (hW:RdAt W g B a s1)=>(by have:=blob_readfixed W hW hB 4 (by omega);exact this:Calls Tryz.prog 186 #[.pointer (some ⟨g,0,none⟩),.int .i64 4] W fun r w'=>r=.returned (.int .u64 ((fixN (s1.take B 4).2:Nat):Int))∧RdStep W g B a (s1.take B 4).1 w'))
 have HAT:=hid (fun (W:World) (hW:RdAt W g B a s1)=>rd_at W hW)
 generalize s1.take B 4=T at*
 obtain⟨s2,F⟩:=T
 dsimp only at*
 generalize fixN F=v at*
 have HCK:=hid (fun (W:World) (hW:RdAt W g B a s2) (ad:Option Addr) (cd:Nat) (hD:rBytes.r (·<W.heap.size) W [.slice ad D.length cd] D)=>frame_checked hW D ad cd hD v (s1.p:Int))
 generalize (if crcSum D=v then s2 else s2.fail 6 (s1.p:Int))=s3 at*
 generalize hRS:(if s3.k=0 then D else [])=RES
 have HRS:=hid hRS
 generalize min m 2097152=mm at*
 clear h hRS
 by_cases hk:s3.k=0
 ·have HG:=hid (fun (V:World) (hV:RdAt V g B a s3)=>(by have:=rd_good V hV;rw[decide_eq_true hk] at this;exact this:Calls Tryz.prog 151 #[.pointer (some ⟨g,0,none⟩)] V fun r w'=>r=.returned (.bool true)∧Below V.heap.size V w'))
  have HR2:Hid (RES=D):=hid (by rw[←HRS.out];exact if_pos hk)
  clear hk
  go_enter Tryz.func192,Tryz.ntmps192
  go_wp2_with fail
  refine HBD.out.mono ?_
  rintro r w0 ⟨rfl,rfl⟩
  go_wp2_with fail
  refine HBL.out.mono ?_
  rintro r w1 ⟨v1,rfl,hv1,hst1⟩
  obtain⟨ad,cd,hfv,hv2,_⟩:=sl_form hv1
  simp only[List.cons.injEq,and_true] at hfv
  subst hfv
  have HV1:=hid hv2
  have HS1:=hid hst1
  have hz1:=hst1.2.size
  clear hv1 hv2 hst1
  go_wp2_with fail
  refine (HAT.out w1 HS1.out.1).mono ?_
  rintro r w1' ⟨rfl,rfl⟩
  go_wp2_with fail
  refine (HFX.out w1 HS1.out.1).mono ?_
  rintro r w3 ⟨rfl,hst3⟩
  have HV3:=hid (rBytes.mono (rBytes.keep HV1.out (w':=w3) fun q hq=>hst3.2.block q hq.2 (by have:=hq.1;omega)) (S':=fun q=>w.heap.size≤q∧q<w3.heap.size) fun q hq=>⟨hq.1,Nat.lt_of_lt_of_le hq.2 hst3.2.size⟩)
  have HS3:=hid (RdStep.trans HS1.out.2 hst3)
  clear hst3
  go_wp2_with fail
  refine (HCK.out w3 HS3.out.1 ad cd (rBytes.mono HV3.out fun q hq=>hq.2)).mono ?_
  rintro r w4 ⟨rfl,hst4⟩
  have HV4:=hid (rBytes.mono (rBytes.keep HV3.out (w':=w4) fun q hq=>hst4.2.block q hq.2 (by have:=hq.1;omega)) (S':=fun q=>w.heap.size≤q∧q<w4.heap.size) fun q hq=>⟨hq.1,Nat.lt_of_lt_of_le hq.2 hst4.2.size⟩)
  have HS4:=hid (RdStep.trans HS3.out.2 hst4)
  clear hst4
  go_wp2_with fail
  refine (HG.out w4 HS4.out.1).mono ?_
  rintro r w5 ⟨rfl,hb5⟩
  have HSE:=hid (HS4.out.then hb5)
  have HVF:=hid (show rBytes.r (fun q=>w.heap.size≤q∧q<w5.heap.size) w5 [.slice ad D.length cd] D from rBytes.mono (rBytes.keep HV4.out fun q hq=>hb5.block q hq.2) fun q hq=>⟨hq.1,Nat.lt_of_lt_of_le hq.2 hb5.size⟩)
  clear hb5
  go_wp2_with fail
  go_ret
  rw[HR2.out]
  exact⟨_,rfl,HVF.out,HSE.out⟩
 ·have HG:=hid (fun (V:World) (hV:RdAt V g B a s3)=>(by have:=rd_good V hV;rw[decide_eq_false hk] at this;exact this:Calls Tryz.prog 151 #[.pointer (some ⟨g,0,none⟩)] V fun r w'=>r=.returned (.bool false)∧Below V.heap.size V w'))
  have HR2:Hid (RES=[]):=hid (by rw[←HRS.out];exact if_neg hk)
  clear hk
  go_enter Tryz.func192,Tryz.ntmps192
  go_wp2_with fail
  refine HBD.out.mono ?_
  rintro r w0 ⟨rfl,rfl⟩
  go_wp2_with fail
  refine HBL.out.mono ?_
  rintro r w1 ⟨v1,rfl,hv1,hst1⟩
  obtain⟨ad,cd,hfv,hv2,_⟩:=sl_form hv1
  simp only[List.cons.injEq,and_true] at hfv
  subst hfv
  have HV1:=hid hv2
  have HS1:=hid hst1
  have hz1:=hst1.2.size
  clear hv1 hv2 hst1
  go_wp2_with fail
  refine (HAT.out w1 HS1.out.1).mono ?_
  rintro r w1' ⟨rfl,rfl⟩
  go_wp2_with fail
  refine (HFX.out w1 HS1.out.1).mono ?_
  rintro r w3 ⟨rfl,hst3⟩
  have HV3:=hid (rBytes.mono (rBytes.keep HV1.out (w':=w3) fun q hq=>hst3.2.block q hq.2 (by have:=hq.1;omega)) (S':=fun q=>w.heap.size≤q∧q<w3.heap.size) fun q hq=>⟨hq.1,Nat.lt_of_lt_of_le hq.2 hst3.2.size⟩)
  have HS3:=hid (RdStep.trans HS1.out.2 hst3)
  clear hst3
  go_wp2_with fail
  refine (HCK.out w3 HS3.out.1 ad cd (rBytes.mono HV3.out fun q hq=>hq.2)).mono ?_
  rintro r w4 ⟨rfl,hst4⟩
  have HV4:=hid (rBytes.mono (rBytes.keep HV3.out (w':=w4) fun q hq=>hst4.2.block q hq.2 (by have:=hq.1;omega)) (S':=fun q=>w.heap.size≤q∧q<w4.heap.size) fun q hq=>⟨hq.1,Nat.lt_of_lt_of_le hq.2 hst4.2.size⟩)
  have HS4:=hid (RdStep.trans HS3.out.2 hst4)
  clear hst4
  go_wp2_with fail
  refine (HG.out w4 HS4.out.1).mono ?_
  rintro r w5 ⟨rfl,hb5⟩
  have HSE:=hid (HS4.out.then hb5)
  clear hb5
  go_wp2_with fail
  go_ret
  rw[HR2.out]
  exact⟨_,rfl,rSl_mk (xs:=[]) rfl (Nat.le_refl _) (Nat.zero_le _) (.inl rfl),HSE.out⟩
theorem frame_get(w:World)(B:List UInt8)(a:Option Addr)(n c:Nat)(hl:rBytes.r (·<w.heap.size) w [.slice a n c] B)(hB:B.length≤1000000000)(most:Int)(hm: -9223372036854775808≤most∧most≤9223372036854775807):
  Calls Tryz.prog 327 #[.slice a n c,.int .i64 most] w fun r w'=>∃v,r=.returned (.tuple #[v,.int .i64 ((getR (((⟨0,0,0⟩:Rs).frame B most))).2.1:Int),.agg #[.int .i64 (getR (((⟨0,0,0⟩:Rs).frame B most))).2.2.1,.int .i64 (getR (((⟨0,0,0⟩:Rs).frame B most))).2.2.2]])∧rBytes.r (fun q=>w.heap.size≤q∧q<w'.heap.size) w' [v] (getR (((⟨0,0,0⟩:Rs).frame B most))).1∧Below w.heap.size w w':=by
 obtain⟨rfl,hmx,hcc,hcm⟩:=sl_len hl
 have HN:=hid (rd_new (w.alloc (.cells #[.int .i64 0,.int .i64 0] 31)) B a _ c (lift hl (by (repeat (first | with_reducible exact Below.refl _ _ | with_reducible assumption | (with_reducible refine below_alloc ?_ _) | (with_reducible refine Below.setCell ?_ (by first | omega | (simp;done) | (simp;omega)) _) | (with_reducible refine Below.drew ?_) | (with_reducible refine below_drewN ?_ _) | (refine below_then (by with_reducible assumption) ?_))))))
 have hLS:=hid (fun (W:World) (h:RdAt W (w.heap.size+1) B a ⟨0,0,0⟩)=>frame_read W h hB most hm)
 unfold getR
 generalize ((⟨0,0,0⟩:Rs).frame B most)=L at*
 obtain⟨s1,D⟩:=L
 dsimp only at*
 clear hl
 by_cases hk:s1.k=0
 ·rw[if_pos hk]
  have d1:decide (s1.k=0)=true:=decide_eq_true hk
  clear hk
  dsimp only
  go_enter Tryz.func327,Tryz.ntmps327
  go_wp2_with fail
  refine HN.out.mono ?_
  rintro r w1 ⟨rfl,hrd,hb1⟩
  have F1:Blk w1 w.heap.size 31 #[.int .i64 0,.int .i64 0]:=Blk.later (by (repeat (first | assumption | exact Blk.newAt _ _ _ (by first | (simp;done) | (simp;omega)) | refine Blk.alloc ?_ _ | refine Blk.drew ?_ | refine Blk.drewN ?_ _ | refine Blk.far ?_ (by first | (simp;done) | (simp;omega)) _))) hb1
  have hbw1:Below w.heap.size w w1:=by (repeat (first | with_reducible exact Below.refl _ _ | with_reducible assumption | (with_reducible refine below_alloc ?_ _) | (with_reducible refine Below.setCell ?_ (by first | omega | (simp;done) | (simp;omega)) _) | (with_reducible refine Below.drew ?_) | (with_reducible refine below_drewN ?_ _) | (refine below_then (by with_reducible assumption) ?_)))
  have hgl:=hrd.blk.lt
  simp at hrd hgl
  have HRD:=hid hrd
  have HLS:=hid (hLS.out w1 hrd)
  clear hrd hb1
  go_wp2_with fail
  refine HLS.out.mono ?_
  rintro r w2 ⟨v,rfl,hr,hst⟩
  obtain⟨aD,cD,hv,hr2,_⟩:=sl_form hr
  simp only[List.cons.injEq,and_true] at hv
  subst hv
  have HST:=hid hst
  have HR:=hid hr2
  have hs2:=hst.size
  have F2:=F1.tch hst.2 (by omega)
  have hbw2:Below w.heap.size w w2:=hbw1.trans (hst.below (by omega) (by omega))
  have HFA:=hid (rd_fault w2 hst.1)
  clear hr hr2 hst F1
  go_wp2_with fail
  refine HFA.out.mono ?_
  rintro r w3 ⟨rfl,hb3⟩
  have F3:=F2.later hb3
  have hG:=fault_good (w3.alloc (.cells #[.int .i64 s1.k,.int .i64 s1.f] 31)) s1.k s1.f
  rw[d1] at hG
  have HG:=hid hG
  have hbw3:=below_then hb3 hbw2
  clear hG d1
  go_wp2_with fail
  refine HG.out.mono ?_
  rintro r w4 ⟨rfl,hb4⟩
  have F4:=(F3.alloc _).later hb4
  obtain⟨y0,y1,g0,g1,l1⟩:=f_blk F4
  have hb24:Below w2.heap.size w2 w4:=by (repeat (first | with_reducible exact Below.refl _ _ | with_reducible assumption | (with_reducible refine below_alloc ?_ _) | (with_reducible refine Below.setCell ?_ (by first | omega | (simp;done) | (simp;omega)) _) | (with_reducible refine Below.drew ?_) | (with_reducible refine below_drewN ?_ _) | (refine below_then (by with_reducible assumption) ?_)))
  have hbw4:=below_then hb24 hbw2
  have HST4:=hid (HST.out.then hb24)
  have hs4:=hb24.size
  have HAT:=hid (rd_at w4 HST4.out.1)
  have HRK:=hid (rBytes.mono (S':=fun q=>w.heap.size+1<q∧q<w4.heap.size) (rBytes.keep HR.out fun q hq=>hb24.block q hq.2) fun q hq=>⟨by omega,by omega⟩)
  clear F2 F3 F4
  go_wp2_with fail
  refine HAT.out.mono ?_
  rintro r w4' ⟨rfl,rfl⟩
  go_wp2
  refine bodyPost_ret (v:=.tuple #[.slice aD D.length cD,.int .i64 (s1.p:Int),.agg #[.int .i64 0,.int .i64 0]]) (by simp[results,Tryz.results327,go_sem,y0,y1,l1]) rfl ⟨_,rfl,?_,by (repeat (first | with_reducible exact Below.refl _ _ | with_reducible assumption | (with_reducible refine below_alloc ?_ _) | (with_reducible refine Below.setCell ?_ (by first | omega | (simp;done) | (simp;omega)) _) | (with_reducible refine Below.drew ?_) | (with_reducible refine below_drewN ?_ _) | (refine below_then (by with_reducible assumption) ?_)))⟩
  refine rBytes.mono (rBytes.keep HRK.out fun q hq=> ?_) fun q hq=>⟨by omega,by simp[World.setCell];exact hq.2⟩
  repeat (rw[Below.heap_setCell _ _ _ _ (by dsimp only;omega)])
 ·rw[if_neg hk]
  have d1:decide (s1.k=0)=false:=decide_eq_false hk
  clear hk
  dsimp only
  go_enter Tryz.func327,Tryz.ntmps327
  go_wp2_with fail
  refine HN.out.mono ?_
  rintro r w1 ⟨rfl,hrd,hb1⟩
  have F1:Blk w1 w.heap.size 31 #[.int .i64 0,.int .i64 0]:=Blk.later (by (repeat (first | assumption | exact Blk.newAt _ _ _ (by first | (simp;done) | (simp;omega)) | refine Blk.alloc ?_ _ | refine Blk.drew ?_ | refine Blk.drewN ?_ _ | refine Blk.far ?_ (by first | (simp;done) | (simp;omega)) _))) hb1
  have hbw1:Below w.heap.size w w1:=by (repeat (first | with_reducible exact Below.refl _ _ | with_reducible assumption | (with_reducible refine below_alloc ?_ _) | (with_reducible refine Below.setCell ?_ (by first | omega | (simp;done) | (simp;omega)) _) | (with_reducible refine Below.drew ?_) | (with_reducible refine below_drewN ?_ _) | (refine below_then (by with_reducible assumption) ?_)))
  have hgl:=hrd.blk.lt
  simp at hrd hgl
  have HRD:=hid hrd
  have HLS:=hid (hLS.out w1 hrd)
  clear hrd hb1
  go_wp2_with fail
  refine HLS.out.mono ?_
  rintro r w2 ⟨v,rfl,hr,hst⟩
  obtain⟨aD,cD,hv,hr2,_⟩:=sl_form hr
  simp only[List.cons.injEq,and_true] at hv
  subst hv
  have HST:=hid hst
  have HR:=hid hr2
  have hs2:=hst.size
  have F2:=F1.tch hst.2 (by omega)
  have hbw2:Below w.heap.size w w2:=hbw1.trans (hst.below (by omega) (by omega))
  have HFA:=hid (rd_fault w2 hst.1)
  clear hr hr2 hst F1
  go_wp2_with fail
  refine HFA.out.mono ?_
  rintro r w3 ⟨rfl,hb3⟩
  have F3:=F2.later hb3
  have hG:=fault_good (w3.alloc (.cells #[.int .i64 s1.k,.int .i64 s1.f] 31)) s1.k s1.f
  rw[d1] at hG
  have HG:=hid hG
  have hbw3:=below_then hb3 hbw2
  clear hG d1
  go_wp2_with fail
  refine HG.out.mono ?_
  rintro r w4 ⟨rfl,hb4⟩
  have F4:=(F3.alloc _).later hb4
  obtain⟨y0,y1,g0,g1,l1⟩:=f_blk F4
  have hb24:Below w2.heap.size w2 w4:=by (repeat (first | with_reducible exact Below.refl _ _ | with_reducible assumption | (with_reducible refine below_alloc ?_ _) | (with_reducible refine Below.setCell ?_ (by first | omega | (simp;done) | (simp;omega)) _) | (with_reducible refine Below.drew ?_) | (with_reducible refine below_drewN ?_ _) | (refine below_then (by with_reducible assumption) ?_)))
  have hbw4:=below_then hb24 hbw2
  have HST4:=hid (HST.out.then hb24)
  have hs4:=hb24.size
  obtain⟨z0,z1,e0,e1,l2⟩:=f_blk (Blk.later (Blk.newAt w3 _ _ rfl) hb4)
  clear F2 F3 F4
  go_wp2_with fail
  go_region
  all_goals
   go_wp2
   refine bodyPost_ret (v:=.tuple #[.slice none 0 0,.int .i64 0,.agg #[.int .i64 s1.k,.int .i64 s1.f]]) (by simp[results,Tryz.results327,go_sem,y0,y1,l1]) rfl ⟨_,rfl,empty_bytes rfl rfl (by omega),by (repeat (first | with_reducible exact Below.refl _ _ | with_reducible assumption | (with_reducible refine below_alloc ?_ _) | (with_reducible refine Below.setCell ?_ (by first | omega | (simp;done) | (simp;omega)) _) | (with_reducible refine Below.drew ?_) | (with_reducible refine below_drewN ?_ _) | (refine below_then (by with_reducible assumption) ?_)))⟩
end Go.Proofs.YtmioakocnebceaaGreat
