/- The program's find: it looks for the result of a place, and of all that it needs. -/
import Derived.Test.YtgeoehnbpkediaaGreatZEvM
set_option maxHeartbeats 8000000
set_option maxRecDepth 100000
namespace Go.Proofs.YtgeoehnbpkediaaGreat
open Go.RowKit
open Lib (hid)
open Go.Value renaming int->Yv
open Go.IntKind renaming i64->Yi
variable {D:Nat->Prop} {da ra sa:Option Addr} {dc fd g n rc sc z:Nat} {l:List Dfn} {res:Nat->Rs} {st:Nat->Nat} {sv:Nat->Value} {w wr:World}
theorem ZmQ {S:Nat->Prop} {nd:Nat->List (Option Nat)} {op:Nat->List Rs->Rs} {i:Nat} (hi:i<l.length) (h:FPre w D S g da dc ra rc sa sc l nd op st res sv fd) (h0:st i=0) (hk:Stk nd l.length st i)
  (ih: ∀ {D' S':Nat->Prop} (i':Nat) (w':World) (st':Nat->Nat) (res':Nat->Rs) (sv':Nat->Value) (fd':Nat),zer st' l.length<zer st l.length->i'<l.length->Stk nd l.length st' i'->FPre w' D' S' g da dc ra rc sa sc l nd op st' res' sv' fd'->Calls Tryz.prog 36 #[.pointer (some ⟨g,0,none⟩),Yv Yi (i':Int)] w' (FPost D' S' g da dc ra rc sa sc l nd op st' res' fd' i' w')):
  Calls Tryz.prog 36 #[.pointer (some ⟨g,0,none⟩),Yv Yi (i:Int)] w (FPost D S g da dc ra rc sa sc l nd op st res fd i w):=by
 have hlts:=h.lts
 have hlen:=h.len
 have Hnd:=hid (h.ndq i hi h0)
 obtain ⟨sb,rfl,hsb,cs,fs⟩:=h.ev.stAt hi
 have HP:=hid h
 replace h:=h.dlow
 obtain ⟨D2,hD2⟩: ∃ D2:Nat->Prop,D2=fun q=>D q/\q<w.heap.size:=⟨_,rfl⟩
 rw[←hD2] at h
 have hDlt: ∀ q,D2 q->q<w.heap.size:=fun q hq=>by rw[hD2] at hq;exact hq.2
 clear hD2
 rw[h0] at cs
 obtain ⟨db,doff,d,dva,dvc,rfl,hdi,hDb,hdb,hdAt,hdv,hdok⟩:=h.df.at hi
 obtain ⟨⟨g0,g1,g2,g3⟩, -⟩:=h.ev.bg.four'
 have hltg:=hlts.1
 have P1:=h.one (i:=i)
 obtain ⟨w1,hw1⟩: ∃ z,z=w.setCell ⟨sb,i,none⟩ (Yv Yi (1:Int)):=⟨_,rfl⟩
 have hK1:Keep (fun q=>q≠sb) w w1:=by rw[hw1];exact (Keep.refl _ w).setCell (fun _ e=>e rfl) _
 rw[←hw1] at P1
 have hs1:w1.heap.size=w.heap.size:=by rw[hw1];simp
 have hdne:db≠sb:=fun e=>(h.dsep db hDb).2.2 (by rw[e];rfl)
 obtain ⟨c0,c1,c2,c3,c4,c5,c6⟩:=hdAt.keep hK1 hdne
 have hv1:RdI w1 D2 dva d.value.cells.length dvc d.value.cells:=hdv.keep hK1 fun q _ hq e=>(h.dsep q hq).2.2 (by rw[e];rfl)
 obtain ⟨⟨p0,p1,p2,p3⟩, -⟩:=P1.ev.bg.four'
 have hltg1:=P1.ev.bg.lt
 have hltd1:db<w1.heap.size:=by omega
 obtain ⟨w3,hw3⟩: ∃ z,z=(w1.alloc (.cells #[.string d.name,Yv Yi d.op, .string d.a, .string d.b,Yv Yi d.value.rows,Yv Yi d.value.cols, .slice dva d.value.cells.length dvc] 30)).alloc (.cells #[] 28):=⟨_,rfl⟩
 have hG3:Grow w1 w3:=by rw[hw3];exact ((Grow.refl _).alloc _ _).alloc _ _
 have bD3:Blk w3 w.heap.size #[.string d.name,Yv Yi d.op, .string d.a, .string d.b,Yv Yi d.value.rows,Yv Yi d.value.cols, .slice dva d.value.cells.length dvc] 30:=by rw[hw3];exact (Blk.newAt _ _ _ hs1.symm).alloc _
 have M3:LM w3 w.heap.size (fun q=>q≠g/\blk ra≠some q/\q≠sb) (some ⟨w.heap.size+1,0,none⟩) 0 []:=by rw[hw3];exact LM.nilAt (by simp[hs1]) (by omega)
 have hv3:=hv1.grow hG3
 have hsepN: ∀ q,w.heap.size<=q->q≠g/\blk ra≠some q/\blk (some (⟨sb,0,none⟩:Addr))≠some q:=fun q hq=>⟨by omega,fun e=>by have:=hlts.2.1 q e;omega,fun e=>by have:=hlts.2.2 q e;omega⟩
 have hsepS: ∀ q,(S q\/w.heap.size<=q)->q≠g/\blk ra≠some q/\blk (some (⟨sb,0,none⟩:Addr))≠some q:=fun q hq=>by
  rcases hq with hq|hq
  ·exact h.sep q hq
  ·exact hsepN q hq
 have P3:FPre w3 D2 (fun q=>(S q\/w.heap.size<=q)/\blk (some (⟨w.heap.size+1,0,none⟩:Addr))≠some q) g (some ⟨db,doff,none⟩) dc ra rc (some ⟨sb,0,none⟩) sc l nd op (ZQ st i 1) res sv fd:=
  (P1.weak (T:=fun q=>(S q\/w.heap.size<=q)/\blk (some (⟨w.heap.size+1,0,none⟩:Addr))≠some q) (fun q hq hS=>⟨.inl hS,fun e=>by have:=Option.some.inj e;simp only at this;omega⟩) fun q hq=>hsepS q hq.1).grow hG3
 have hK3:Keep (fun q=>q<w.heap.size/\q≠g/\blk ra≠some q/\q≠sb) w w3:=(hK1.mono fun q _ hq=>hq.2.2.2).trans (hG3.any.mono fun _ _ _=>trivial)
 have Hw1:=hid hw1
 have Hw3:=hid hw3
 rw[hw1] at p0 p1 p2 p3 hltg1 hltd1 c0 c1 c2 c3 c4 c5 c6
 have H0:=hid h0
 have Hdi:=hid hdi
 have Hs1:=hid hs1
 have Hnl:=hid (show nd i=(Za0 d).map (Zcz l) by rw[Hnd.out.1];unfold ndL;rw[hdi])
 clear h0 hdi hw1 hw3 hs1
 go_enter Tryz.func36,Tryz.ntmps36
 go_wp2_with fail
 rw[←Hw1.out, ←Hw3.out]
 refine (ZnQ (S:=D2) ⟨dva,d.value.cells.length,dvc,rfl,hv3,hdok⟩).mono ?_
 rintro e w4 ⟨na,nc,rfl,oN,fN,hG4⟩
 have bD4:=bD3.grow hG4
 have M4:=M3.grow hG4
 have P4:=P3.grow hG4
 have hK4:=hK3.trans (hG4.any.mono fun _ _ _=>trivial)
 have hv4:=hv3.grow hG4
 obtain ⟨nds,hnds⟩: ∃ x,x=Za0 d:=⟨_,rfl⟩
 rw[←hnds] at oN Hnl ⊢
 have Hnds:=hid hnds
 obtain ⟨nn,hnn⟩: ∃ x,x=nds.length:=⟨_,rfl⟩
 rw[←hnn] at oN ⊢
 have hn2:nn<=2:=by rw[hnn,hnds];unfold Za0;split;simp;split<;>simp
 have Hnn:=hid hnn
 have hs3:w.heap.size+1+1<=w3.heap.size:=by rw[Hw3.out];simp[Hs1.out]
 have hs4:=hG4.size
 have fN': ∀ q,blk na=some q->w.heap.size+1<q:=fun q hq=>by have:=fN q hq;omega
 clear hnds hnn bD3 M3 P3 hK3 hv3 p0 p1 p2 p3 hltg1 hltd1 c0 c1 c2 c3 c4 c5 c6 P1 hK1 g0 g1 g2 g3 cs fs hv1 fN hG3 hdAt hdv h
 go_wp2
 go_loopw [6,7,8,44] (fun lv kv fv iv wr=>Keep (fun q=>q<w.heap.size/\q≠g/\blk ra≠some q/\q≠sb) w wr/\Blk wr w.heap.size #[.string d.name,Yv Yi d.op, .string d.a, .string d.b,Yv Yi d.value.rows,Yv Yi d.value.cols, .slice dva d.value.cells.length dvc] 30/\Own wr 9 1 na nn nc (strs nds)/\RdI wr D2 dva d.value.cells.length dvc d.value.cells/\
  ∃ (k:Nat) (la:Option Addr) (lc:Nat) (xs:List Rs) (kn:Bool) (st':Nat->Nat) (res':Nat->Rs) (sv':Nat->Value) (fd':Nat),k<=nn/\iv=Yv Yi k/\lv= .slice la xs.length lc/\kv= .bool kn/\fv= .bool (xs.all Rs.isSome)/\FPre wr D2 (fun q=>(S q\/w.heap.size<=q)/\blk la≠some q) g (some ⟨db,doff,none⟩) dc ra rc (some ⟨sb,0,none⟩) sc l nd op st' res' sv' fd'/\FndE nd op l.length (ZQ st i 1) res st' res'/\fd'+two st l.length=fd+two st' l.length/\fd'+zer st' l.length<=fd+zer (ZQ st i 1) l.length/\LM wr w.heap.size (fun q=>q≠g/\blk ra≠some q/\q≠sb) la lc (xs.map rsM)/\PR nd op l.length i k xs kn st' res') (fun _ _ _ iv _=>nn-(intOf iv).toNat)
 case atStart=>
  refine ⟨hK4,bD4,oN,hv4,0,_,0,[],true,ZQ st i 1,res,sv,fd,Nat.zero_le _,rfl,rfl,rfl,rfl,P4,FndE.refl P4.inv, ?_,Nat.le_refl _,M4,PR.start _ _ _ _ _ _⟩
  have e:=ZgW (st:=st) (i:=i) (v:=1) (n:=l.length)
  have e0:=H0.out
  rw[if_neg (by omega),if_neg (by omega)] at e
  omega
 case round=>
  obtain ⟨hK,bD,oN,hv,k,la,lc,xs,kn,st',res',sv',fd',hkn,rfl,rfl,rfl,rfl,P,hF,h2,hz,M,hR⟩:=hrel
  clear bD4 M4 P4 hK4 hv4
  obtain ⟨⟨g0,g1,g2,g3⟩, -⟩:=P.ev.bg.four'
  have hltg:=P.ev.bg.lt
  have hsz:=hK.size
  have HF:=hid hF
  have HR:=hid hR
  have Hc:=hid (And.intro h2 hz)
  clear hF hR h2 hz
  by_cases hlt:k<nn
  ·obtain ⟨s,hs⟩: ∃ s,nds[k]? =some s:=⟨_,List.getElem?_eq_getElem (by rw[←Hnn.out];exact hlt)⟩
   obtain ⟨nb,rfl⟩: ∃ b,na=some ⟨b,0,none⟩:=by
    cases na with
    |none=>have:=oN.nil rfl;have:=oN.le;omega
    |some q=>exact ⟨q.block,by rw[←(oN.block q rfl).1]⟩
   have cn:=oN.cell (Zow hs)
   have hltn:=oN.lt (g:=nb) rfl
   have Hs:=hid hs
   clear hs
   go_wp2_with fail
   refine (Zf5 (S:=D2) _ _ _ l s _ P.df (by omega)).mono ?_
   rintro e w5 ⟨rfl,hG5⟩
   have hmem:Zcz l s∈nd i:=by rw[Hnl.out];exact List.mem_map.2 ⟨s,List.mem_of_getElem? Hs.out,rfl⟩
   clear g0 g1 g2 g3 hltg cn hltn
   by_cases hneg:ZA l s<0
   ·have Hn:=hid (show ev nd op l.length i=none from ZkZ P.lt hi hmem (fun k hk=>by unfold Zcz at hk;rw[if_neg (by omega)] at hk;cases hk))
    have q1:decide (ZA l s<0)=true:=decide_eq_true hneg
    clear hneg
    generalize ZA l s=fnv at *
    go_wp2
    go_roundw
    case rel=>exact ⟨hK.trans (hG5.any.mono fun _ _ _=>trivial),bD.grow hG5,oN.grow hG5,hv.grow hG5,k+1,la,lc,xs,false,st',res',sv',fd',by omega,by go_num,rfl,rfl,rfl,P.grow hG5,HF.out,Hc.out.1,Hc.out.2,M.grow hG5,HR.out.miss Hn.out⟩
    case measure=>simp[intOf];omega
   ·obtain ⟨p,hp⟩: ∃ p:Nat,ZA l s=p:=⟨(ZA l s).toNat,by omega⟩
    have hfo:Zcz l s=some p:=by unfold Zcz;rw[if_pos (by omega),hp];rfl
    have hpl:p<l.length:=Zhe hfo
    rw[hfo] at hmem
    have Hget:=hid (show (nd i)[k]? =some (some p) by rw[Hnl.out,List.getElem?_map,Hs.out,Option.map_some,hfo])
    have hstk:=HF.out.stk (Zks hk hmem)
    have hzl:zer st' l.length<zer st l.length:=Nat.lt_of_le_of_lt HF.out.zer (Zof hi H0.out (by decide))
    rw[hp]
    clear hfo hneg hp
    go_wp2_with fail
    refine (ih p _ st' res' sv' fd' hzl hpl hstk (P.grow hG5)).mono ?_
    rintro e w6 ⟨st2,res2,sv2,fd2,rfl,P6,hF6,hne,e1,e2,hK6⟩
    have hKK:Keep (fun q=>q<w.heap.size/\q≠g/\blk ra≠some q/\q≠sb) w w6:=(hK.trans (hG5.any.mono fun _ _ _=>trivial)).trans (hK6.mono fun q _ hq=>⟨hq.2.1,hq.2.2.1,fun e=>by have:=Option.some.inj e;simp only at this;omega⟩)
    have bD6:=(bD.grow hG5).keep hK6 (hsepN _ (Nat.le_refl _))
    have oN6:=(oN.grow hG5).keep hK6 (fun q hq _=>hsepN q (by have:=fN' q hq;omega))
    have hv6:=(hv.grow hG5).keep hK6 (fun q _ hq=>P.dsep q hq)
    have M6:=(M.grow hG5).keep hK6 (fun q hq=>hsepN q (M.low q hq)) (fun q hq=>⟨hq.1,hq.2.1,fun e=>by have:=Option.some.inj e;simp only at this;omega⟩)
    have hs5:=hG5.size
    have hlM: ∀ q,blk la=some q->q<w5.heap.size:=fun q hq=>(M.grow hG5).lt hq
    have P6':=P6.weak (T:=fun q=>(S q\/w.heap.size<=q)/\blk la≠some q) (fun q _ hq=>by
     rcases hq with hq|hq
     ·exact hq
     ·exact ⟨.inr (by omega),fun e=>by have:=hlM q e;omega⟩) (fun q hq=>hsepS q hq.1)
    have HF6:=hid (HF.out.trans hF6)
    have HR6:=hid (HR.out.on hF6)
    have Hc6:=hid (show fd2+two st l.length=fd+two st2 l.length/\fd2+zer st2 l.length<=fd+zer (ZQ st i 1) l.length from ⟨by have:=Hc.out.1;omega,by have:=Hc.out.2;omega⟩)
    have hsz6:=hKK.size
    clear hF6 e1 e2 P6 hK hK6 bD oN hv M P HF HR Hc hsz
    by_cases hp2:st2 p=2
    ·have q1:decide (st2 p=2)=true:=decide_eq_true hp2
     obtain ⟨rb,ma,mc,rfl,hrb,hsv,⟨r0,r1,r2,r3⟩,hrd, -⟩:=P6'.ev.resAt hpl
     obtain ⟨⟨g0,g1,g2,g3⟩, -⟩:=P6'.ev.bg.four'
     have hltg:=P6'.ev.bg.lt
     have hok:=P6'.ev.ok p hpl
     have HR7:=hid (HR6.out.add Hget.out hpl hp2 hok)
     have hxl:=HR6.out.1
     rw[q1]
     have Hall:=hid (show (xs++[res2 p]).all Rs.isSome=(xs.all Rs.isSome&&(res2 p).isSome) by simp)
     obtain ⟨rm,hrm⟩: ∃ x,x=rsM (res2 p):=⟨_,rfl⟩
     rw[←hrm] at r0 r1 r2 hrd
     have Hrm:=hid hrm
     obtain ⟨fb,hfb⟩: ∃ x,x=(res2 p).isSome:=⟨_,rfl⟩
     rw[←hfb] at r3 Hall
     obtain ⟨fx,hfx⟩: ∃ x,x=xs.all Rs.isSome:=⟨_,rfl⟩
     rw[←hfx] at Hall ⊢
     have Hq1:=hid hp2
     clear hrm hfb hfx q1 hp2 hok hsv
     obtain ⟨⟨ss,k1,k2,k3⟩,k4⟩:=id M6
     have hoB:=k2.grow ((Grow.refl w6).alloc #[Yv Yi rm.rows,Yv Yi rm.cols, .slice ma rm.cells.length mc] 28)
     rw[List.length_map] at hoB
     have Hk:=hid (And.intro k1 k3)
     clear k1 k2 k3 k4
     cases fx with
     |false=>
      go_wp2_with (first |(at_builtin;refine Zas rfl (.tmp 73) (.tmp 82) _ rfl Zkc rfl hoB rfl (Row.bAt6 (S:=fun _=>True) 1 rfl (by unfold maxLen;omega) rfl (fun _=>trivial)) (by simp[Value.oneCell']) (by omega) (by unfold maxLen;omega) ?_;intro a9 c9 w9 hA9))
      have hGA:Grow w6 (w6.alloc (.cells #[Yv Yi rm.rows,Yv Yi rm.cols, .slice ma rm.cells.length mc] 28)):=(Grow.refl _).alloc _ _
      have hne9: ∀ q,q<w6.heap.size->blk la≠some q->blk a9≠some q:=fun q hlt hq e=>by
       rcases hA9.new with e'|⟨g',e',hg'⟩
       ·rw[e'] at e;exact hq e
       ·rw[e'] at e;have:=Option.some.inj e;simp at hg';omega
      have hlo9: ∀ q,blk la=some q->w.heap.size<=q:=M6.low
      have hLM:=LM.app (m:=rm) (ms:=xs.map rsM) Hk.out.1 (Hk.out.2.grow hGA) hlo9 (by simp;omega) (by rw[List.length_map];exact hA9) ((hrd.weak (T:=fun q=>(q≠g/\blk (some (⟨rb,0,none⟩:Addr))≠some q/\q≠sb)/\blk la≠some q) fun q _ hq=>⟨⟨(hsepS q hq.1).1,(hsepS q hq.1).2.1,fun e=>(hsepS q hq.1).2.2 (by rw[e];rfl)⟩,hq.2⟩).grow hGA)
      have hP9:=(((P6'.weak (T:=fun q=>(S q\/w.heap.size<=q)/\blk la≠some q/\blk a9≠some q) (fun q hlt hq=>⟨hq.1,hq.2,hne9 q hlt hq.2⟩) fun q hq=>hsepS q hq.1).grow hGA).keep hA9.keep (fun e=>by have:=hlo9 _ e;omega) (fun q hq e=>(hsepN q (hlo9 q e)).2.1 hq) (fun q hq e=>(hsepN q (hlo9 q e)).2.2 hq) (fun q hq=>hq.2.1) (fun q _ hq e=>by have:=hDlt q hq;have:=hlo9 q e;omega)).weak (T:=fun q=>(S q\/w.heap.size<=q)/\blk a9≠some q) (fun q _ hq=>⟨hq.1,hq.2.2⟩) fun q hq=>hsepS q hq.1
      have hK9:=(hKK.trans (hGA.any.mono fun _ _ _=>trivial)).trans (hA9.keep.mono fun q _ (hq:q<w.heap.size/\q≠g/\blk (some (⟨rb,0,none⟩:Addr))≠some q/\q≠sb) e=>by have:=hlo9 q e;omega)
      have hb9:=(bD6.grow hGA).keep hA9.keep (Zfl (bD6.grow hGA) hoB (by decide))
      have hn9:=(oN6.grow hGA).keep hA9.keep (fun q hq _=>Own.ne_own (oN6.grow hGA) hoB (by decide) q hq)
      have hd9:=(hv6.grow hGA).keep hA9.keep (fun q _ hq e=>by have:=hDlt q hq;have:=hlo9 q e;omega)
      have Hx:=hid (show (xs++[res2 p]).map rsM=xs.map rsM++[rm] by rw[List.map_append,Hrm.out];rfl)
      go_roundw
      case rel=>exact ⟨hK9,hb9,hn9,hd9,k+1,a9,c9,xs++[res2 p],kn,st2,res2,sv2,fd2,by omega,by go_num,by simp,rfl,by rw[Hall.out];simp,hP9,HF6.out,Hc6.out.1,Hc6.out.2,by rw[Hx.out];exact hLM,HR7.out⟩
      case measure=>simp[intOf];omega
     |true=>
      go_wp2_with (first |(at_builtin;refine Zas rfl (.tmp 73) (.tmp 82) _ rfl Zkc rfl hoB rfl (Row.bAt6 (S:=fun _=>True) 1 rfl (by unfold maxLen;omega) rfl (fun _=>trivial)) (by simp[Value.oneCell']) (by omega) (by unfold maxLen;omega) ?_;intro a9 c9 w9 hA9))
      have hGA:Grow w6 (w6.alloc (.cells #[Yv Yi rm.rows,Yv Yi rm.cols, .slice ma rm.cells.length mc] 28)):=(Grow.refl _).alloc _ _
      have hne9: ∀ q,q<w6.heap.size->blk la≠some q->blk a9≠some q:=fun q hlt hq e=>by
       rcases hA9.new with e'|⟨g',e',hg'⟩
       ·rw[e'] at e;exact hq e
       ·rw[e'] at e;have:=Option.some.inj e;simp at hg';omega
      have hlo9: ∀ q,blk la=some q->w.heap.size<=q:=M6.low
      have hLM:=LM.app (m:=rm) (ms:=xs.map rsM) Hk.out.1 (Hk.out.2.grow hGA) hlo9 (by simp;omega) (by rw[List.length_map];exact hA9) ((hrd.weak (T:=fun q=>(q≠g/\blk (some (⟨rb,0,none⟩:Addr))≠some q/\q≠sb)/\blk la≠some q) fun q _ hq=>⟨⟨(hsepS q hq.1).1,(hsepS q hq.1).2.1,fun e=>(hsepS q hq.1).2.2 (by rw[e];rfl)⟩,hq.2⟩).grow hGA)
      have hP9:=(((P6'.weak (T:=fun q=>(S q\/w.heap.size<=q)/\blk la≠some q/\blk a9≠some q) (fun q hlt hq=>⟨hq.1,hq.2,hne9 q hlt hq.2⟩) fun q hq=>hsepS q hq.1).grow hGA).keep hA9.keep (fun e=>by have:=hlo9 _ e;omega) (fun q hq e=>(hsepN q (hlo9 q e)).2.1 hq) (fun q hq e=>(hsepN q (hlo9 q e)).2.2 hq) (fun q hq=>hq.2.1) (fun q _ hq e=>by have:=hDlt q hq;have:=hlo9 q e;omega)).weak (T:=fun q=>(S q\/w.heap.size<=q)/\blk a9≠some q) (fun q _ hq=>⟨hq.1,hq.2.2⟩) fun q hq=>hsepS q hq.1
      have hK9:=(hKK.trans (hGA.any.mono fun _ _ _=>trivial)).trans (hA9.keep.mono fun q _ (hq:q<w.heap.size/\q≠g/\blk (some (⟨rb,0,none⟩:Addr))≠some q/\q≠sb) e=>by have:=hlo9 q e;omega)
      have hb9:=(bD6.grow hGA).keep hA9.keep (Zfl (bD6.grow hGA) hoB (by decide))
      have hn9:=(oN6.grow hGA).keep hA9.keep (fun q hq _=>Own.ne_own (oN6.grow hGA) hoB (by decide) q hq)
      have hd9:=(hv6.grow hGA).keep hA9.keep (fun q _ hq e=>by have:=hDlt q hq;have:=hlo9 q e;omega)
      have Hx:=hid (show (xs++[res2 p]).map rsM=xs.map rsM++[rm] by rw[List.map_append,Hrm.out];rfl)
      go_roundw
      case rel=>exact ⟨hK9,hb9,hn9,hd9,k+1,a9,c9,xs++[res2 p],kn,st2,res2,sv2,fd2,by omega,by go_num,by simp,rfl,by rw[Hall.out];simp,hP9,HF6.out,Hc6.out.1,Hc6.out.2,by rw[Hx.out];exact hLM,HR7.out⟩
      case measure=>simp[intOf];omega
    ·have q1:decide (st2 p=2)=false:=decide_eq_false hp2
     have Hn:=hid (show ev nd op l.length i=none from Zoh hi hmem hpl P6'.lt HF6.out (Zks hk hmem) hne hp2 (P6'.le3 p hpl))
     rw[q1]
     clear hp2 q1
     go_wp2
     go_roundw
     case rel=>exact ⟨hKK,bD6,oN6,hv6,k+1,la,lc,xs,false,st2,res2,sv2,fd2,by omega,by go_num,rfl,rfl,rfl,P6',HF6.out,Hc6.out.1,Hc6.out.2,M6,HR6.out.miss Hn.out⟩
     case measure=>simp[intOf];omega
  ·obtain rfl:nn=k:=by omega
   obtain ⟨rb,ma0,mc0,rfl,hrb, -,⟨r0,r1,r2,r3⟩, -,rf0,rf1,rf2,rf3⟩:=P.ev.resAt hi
   have hSr: ∀ q,(S q\/w.heap.size<=q)/\blk la≠some q->q≠rb:=fun q hq e=>(hsepS q hq.1).2.1 (by rw[e];rfl)
   have hSs: ∀ q,(S q\/w.heap.size<=q)/\blk la≠some q->q≠sb:=fun q hq e=>(hsepS q hq.1).2.2 (by rw[e];rfl)
   obtain ⟨wz,hwz⟩: ∃ z,z=(((wr.setCell ⟨rb,i*4,none⟩ (Yv Yi 0)).setCell ⟨rb,i*4+1,none⟩ (Yv Yi 0)).setCell ⟨rb,i*4+2,none⟩ (.slice none 0 0)).setCell ⟨rb,i*4+3,none⟩ (.bool false):=⟨_,rfl⟩
   have E1:EvW wz (fun q=>(S q\/w.heap.size<=q)/\blk la≠some q) g (some ⟨db,doff,none⟩) dc (some ⟨rb,0,none⟩) rc (some ⟨sb,0,none⟩) sc l.length st' (Zaf res' i rs0) (Zaf sv' i (.slice none 0 0)) fd':=by
    rw[hwz]
    exact P.ev.setRes hSr hi (r:=rs0) (a:=none) (c:=0) Own.nilw (fun _ h=>by cases h) (fun q hq=>by simp at hq) (fun q hq=>by simp at hq) ⟨by unfold ROk rsM rs0 rsZ I64;simp,by simp[rsM,rs0,rsZ]⟩
   have hKz:Keep (fun q=>q≠rb) wr wz:=by rw[hwz];exact ((((Keep.refl _ wr).setCell (fun _ e=>e rfl) _).setCell (fun _ e=>e rfl) _).setCell (fun _ e=>e rfl) _).setCell (fun _ e=>e rfl) _
   obtain ⟨sb',esb,hsbz,cz,fz⟩:=E1.stAt hi
   obtain rfl:sb'=sb:=by have:=Option.some.inj esb;simp only[Addr.mk.injEq] at this;exact this.1.symm
   obtain ⟨⟨z0,z1,z2,z3⟩, -⟩:=E1.bg.four'
   have hltz:=E1.bg.lt
   have hKw: ∀ v:Nat,Keep (fun q=>q<w.heap.size/\q≠g/\blk (some (⟨rb,0,none⟩:Addr))≠some q/\q≠sb') w (wz.setCell ⟨sb',i,none⟩ (Yv Yi (v:Int))):=fun v=>(hK.trans (hKz.mono fun q _ hq e=>hq.2.2.1 (by rw[e];rfl))).setCell (fun _ e=>e.2.2.2 rfl) _
   have hKw': ∀ v:Nat,Keep (fun q=>q≠g/\blk (some (⟨rb,0,none⟩:Addr))≠some q/\blk (some (⟨sb',0,none⟩:Addr))≠some q) w (wz.setCell ⟨sb',i,none⟩ (Yv Yi (v:Int))):=fun v=>(hKw v).mono fun q hlt hq=>⟨hlt,hq.1,hq.2.1,fun e=>hq.2.2 (by rw[e];rfl)⟩
   have Hwz:=hid hwz
   rw[hwz] at z0 z1 z2 z3 hltz cz fz hsbz
   clear hwz esb
   cases kn with
   |false=>
    have Hn:=hid (HR.out.no)
    have E2:=(E1.setSt hSs i 3).weak (T:=fun q=>S q\/w.heap.size<=q) fun q _ hq=>hq.1
    go_wp2
    rw[←Hwz.out]
    go_ret
    exact Zd6 hi H0.out HP.out P HF.out Hc.out.1 Hc.out.2 E2 (.inr ⟨rfl,Hn.out,rfl,rfl⟩) (hKw' 3) rfl
   |true=>
    have Hy:=hid (HR.out.yes (by rw[Hnl.out,List.length_map];exact Hnn.out) P.inv hi P.lt)
    have hfl:=P.few
    have hSg: ∀ q,(S q\/w.heap.size<=q)/\blk la≠some q->q≠g:=fun q hq=>(hsepS q hq.1).1
    obtain ⟨w2,hw2⟩: ∃ z,z=wz.setCell ⟨sb',i,none⟩ (Yv Yi 2):=⟨_,rfl⟩
    obtain ⟨w3,hw3⟩: ∃ z,z=w2.setCell ⟨g,3,none⟩ (Yv Yi ((fd':Int)+1)):=⟨_,rfl⟩
    have E2:EvW w2 (fun q=>(S q\/w.heap.size<=q)/\blk la≠some q) g (some ⟨db,doff,none⟩) dc (some ⟨rb,0,none⟩) rc (some ⟨sb',0,none⟩) sc l.length (ZQ st' i 2) (Zaf res' i rs0) (Zaf sv' i (.slice none 0 0)) fd':=by rw[hw2];exact E1.setSt hSs i 2
    have E3:EvW w3 (fun q=>(S q\/w.heap.size<=q)/\blk la≠some q) g (some ⟨db,doff,none⟩) dc (some ⟨rb,0,none⟩) rc (some ⟨sb',0,none⟩) sc l.length (ZQ st' i 2) (Zaf res' i rs0) (Zaf sv' i (.slice none 0 0)) (fd'+1):=by rw[hw3];exact E2.setFd hSg (fd'+1)
    have hKz3:Keep (fun q=>q≠g/\q≠rb/\q≠sb') wr w3:=by
     rw[hw3,hw2]
     exact ((hKz.mono fun q _ hq=>hq.2.1).setCell (fun _ e=>e.2.2 rfl) _).setCell (fun _ e=>e.1 rfl) _
    have hKw3:Keep (fun q=>q≠g/\blk (some (⟨rb,0,none⟩:Addr))≠some q/\blk (some (⟨sb',0,none⟩:Addr))≠some q) w w3:=(hK.mono fun q hlt hq=>⟨hlt,hq.1,hq.2.1,fun e=>hq.2.2 (by rw[e];rfl)⟩).trans (hKz3.mono fun q _ hq=>⟨hq.1,fun e=>hq.2.1 (by rw[e];rfl),fun e=>hq.2.2 (by rw[e];rfl)⟩)
    have hneN: ∀ q,w.heap.size<=q->q≠g/\q≠rb/\q≠sb':=fun q hq=>⟨(hsepN q hq).1,fun e=>(hsepN q hq).2.1 (by rw[e];rfl),fun e=>(hsepN q hq).2.2 (by rw[e];rfl)⟩
    have hneD: ∀ q,D2 q->q≠g/\q≠rb/\q≠sb':=fun q hq=>⟨(P.dsep q hq).1,fun e=>(P.dsep q hq).2.1 (by rw[e];rfl),fun e=>(P.dsep q hq).2.2 (by rw[e];rfl)⟩
    have bD3:=bD.keep hKz3 (hneN _ (Nat.le_refl _))
    have hv3:=hv.keep hKz3 fun q _ hq=>hneD q hq
    have M3:=M.keep hKz3 (fun q hq=>hneN q (M.low q hq)) (fun q hq=>⟨hq.1,fun e=>hq.2.1 (by rw[e];rfl),hq.2.2⟩)
    obtain ⟨⟨y0,y1,y2,y3⟩,yf⟩:=E2.bg.four'
    have hlt2:=E2.bg.lt
    obtain ⟨⟨d0,d1,d2,d3,d4,d5,d6⟩, -⟩:=bD3.seven
    have hltD:=bD3.lt
    have Hw2:=hid hw2
    have Hw3:=hid hw3
    have e3:w3=((((((wr.setCell ⟨rb,i*4,none⟩ (Yv Yi 0)).setCell ⟨rb,i*4+1,none⟩ (Yv Yi 0)).setCell ⟨rb,i*4+2,none⟩ (.slice none 0 0)).setCell ⟨rb,i*4+3,none⟩ (.bool false)).setCell ⟨sb',i,none⟩ (Yv Yi 2)).setCell ⟨g,3,none⟩ (Yv Yi ((fd':Int)+1))):=by rw[hw3,hw2,Hwz.out]
    have e2:w2=(((((wr.setCell ⟨rb,i*4,none⟩ (Yv Yi 0)).setCell ⟨rb,i*4+1,none⟩ (Yv Yi 0)).setCell ⟨rb,i*4+2,none⟩ (.slice none 0 0)).setCell ⟨rb,i*4+3,none⟩ (.bool false)).setCell ⟨sb',i,none⟩ (Yv Yi 2)):=by rw[hw2,Hwz.out]
    rw[e2] at y0 y1 y2 y3 yf hlt2
    rw[e3] at d1 hltD
    have He3:=hid e3
    clear e2 e3 hw2 hw3 d0 d2 d3 d4 d5 d6
    by_cases hop:d.op=0
    ·have q1:(d.op==0)=true:=by simp[hop]
     have Hop:=hid hop
     clear hop
     go_wp2
     rw[←He3.out]
     obtain ⟨⟨x0,x1,x2,x3⟩, -⟩:=E3.bg.four'
     obtain ⟨⟨m0,m1,m2,m3,m4,m5,m6⟩, -⟩:=bD3.seven
     refine ZN (S:=(Grow w3)) (last:=10) [([0,1,2,3,4,5,6],some 7),([],some 8),([9],some 10)] Zn (by kernel_rfl) (fun _ _ _ _ _ h=>h) (Grow.refl _).drew ?_
     show wpQuiet _ _ _ _ [_,_,_,_,_,_,_] _
     repeat (first |go_big_quiet_skip|(go_big_quiet_want;first |(apply Zc ZgU;rfl;rfl;exact (fun w' hG=>hG.cell x1);go_big_quiet_on;simp only[putP])|(apply Zi Za;rfl;rfl;exact (fun w' hG=>⟨hG.cell m4,hG.cell m5,hG.cell m6⟩);go_big_quiet_on;simp only[putP])|(go_big_quiet_op;first |go_big_quiet_on|(refine ⟨_,(fun _ _=>rfl), ?_⟩;go_big_quiet_on))))
     refine wpQuiet_nil ?_
     refine Zx rfl (fun K hK=> ?_)
     go_wp2_with fail
     refine (ZcI (S:=D2) (m:=d.value) ⟨dva,d.value.cells.length,dvc,rfl,hv3.grow (Grow.refl w3).drew,hdok.2.2.2.2.1,hdok.2.2.2.2.2⟩ (P.dbd d (List.mem_of_getElem? Hdi.out))).mono ?_
     rintro e w5 ⟨rv,rfl,⟨ca,cn,cc,rfl,oC,rC,fC,i1,i2⟩,hG5⟩
     have hG35:=(Grow.refl w3).drew.trans hG5
     obtain rfl:d.value.cells.length=cn:=by have:=oC.len;simp[ints] at this;exact this
     go_wp2_with fail
     refine hK _ _ ((fun _=>hG35)) ?_
     clear hK K
     show wpQuiet _ _ _ _ [] _
     try (conv=>arg 6;simp only[putP])
     refine wpQuiet_nil ?_
     refine Zx rfl (fun K hK=> ?_)
     go_wp2_with fail
     refine hK _ _ ((fun _=>hG35)) ?_
     clear hK K
     show wpQuiet _ _ _ _ [_] _
     try (conv=>arg 6;simp only[putP])
     repeat (first |go_big_quiet_skip|(go_big_quiet_want;first |(apply Zc ZgU;rfl;rfl;exact (fun w' hG=>hG.cell x1);go_big_quiet_on;simp only[putP])|(apply Zi Za;rfl;rfl;exact (fun w' hG=>⟨hG.cell m4,hG.cell m5,hG.cell m6⟩);go_big_quiet_on;simp only[putP])|(go_big_quiet_op;first |go_big_quiet_on|(refine ⟨_,(fun _ _=>rfl), ?_⟩;go_big_quiet_on))))
     refine wpQuiet_nil ?_
     refine Zx rfl (fun K hK=> ?_)
     have E5:=(E3.grow hG35).weak (T:=fun q=>S q\/w.heap.size<=q) fun q _ hq=>hq.1
     have hs35:=hKw3.size
     obtain ⟨rb',_,_,erb,hrb5, -,⟨v0,v1,v2,v3⟩, -,vf0,vf1,vf2,vf3⟩:=E5.resAt hi
     obtain rfl:rb=rb':=by have:=Option.some.inj erb;simp only[Addr.mk.injEq] at this;exact this.1
     have E6:=E5.setRes (fun q hq e=>(hsepS q hq).2.1 (by rw[e];rfl)) hi (r:=rsS d.value) (a:=ca) (c:=cc) oC rC (fun q hq=> .inr (by have:=(fC q hq).1;simp at this;omega)) (fun q hq j hj _ e=>by have:=(fC q hq).1;have:=E3.low hj e;simp at *;omega) ⟨⟨hdok.2.2.2.2.1,hdok.2.2.2.2.2⟩,P.dbd d (List.mem_of_getElem? Hdi.out)⟩
     have Hval:=hid (show ev nd op l.length i=some (rsS d.value) by
      rw[Hy.out,Hnd.out.2]
      unfold opL opD
      rw[Hdi.out]
      simp only
      rw[if_pos Hop.out])
     rw[ZeT,ZeT] at E6
     have hKf:=((((hKw3.trans (hG35.any.mono fun _ _ _=>trivial)).setCell (p:=⟨rb,i*4,none⟩) (fun _ e=>e.2.1 rfl) (Yv Yi (rsM (rsS d.value)).rows)).setCell (p:=⟨rb,i*4+1,none⟩) (fun _ e=>e.2.1 rfl) (Yv Yi (rsM (rsS d.value)).cols)).setCell (p:=⟨rb,i*4+2,none⟩) (fun _ e=>e.2.1 rfl) (.slice ca (rsM (rsS d.value)).cells.length cc)).setCell (p:=⟨rb,i*4+3,none⟩) (fun _ e=>e.2.1 rfl) (.bool (rsS d.value).isSome)
     have HE:=hid (And.intro E6 hKf)
     clear E6 hKf
     go_wp2_with fail
     refine hK _ _ ((fun h=>(h rfl).elim)) ?_
     clear hK K
     refine Z8 ?_
     go_wp2
     go_ret
     exact Zd6 hi H0.out HP.out P HF.out Hc.out.1 Hc.out.2 HE.out.1 (.inl ⟨rfl,Hval.out,rfl⟩) HE.out.2 rfl
    ·have q1:(d.op==0)=false:=by simp[hop]
     have Hop:=hid hop
     clear hop
     cases hall:xs.all Rs.isSome with
     |false=>
      have Hval:=hid (show ev nd op l.length i=some rs0 by
       rw[Hy.out,Hnd.out.2]
       unfold opL opD
       rw[Hdi.out]
       simp only
       rw[if_neg Hop.out,if_neg (by rw[hall];simp)])
      clear hall
      go_wp2
      rw[←He3.out]
      go_ret
      exact Zd6 hi H0.out HP.out P HF.out Hc.out.1 Hc.out.2 (E3.weak (T:=fun q=>S q\/w.heap.size<=q) fun q _ hq=>hq.1) (.inl ⟨rfl,Hval.out,rfl⟩) hKw3 rfl
     |true=>
      have Hall:=hid hall
      clear hall
      have hxl:=HR.out.1
      have hxb:=hid HR.out.2.1
      obtain ⟨⟨ss,k1,k2,k3⟩,k4⟩:=id M3
      have hGz:Grow w3 (w3.alloc (.cells #[Yv Yi 0,Yv Yi 0, .slice none 0 0] 28)):=(Grow.refl _).alloc _ _
      have hoB:=k2.grow hGz
      rw[List.length_map] at hoB
      have Hk:=hid (And.intro k1 (k3.grow hGz))
      have Hk4:=hid k4
      have HoB:=hid hoB
      rw[He3.out] at hoB
      clear k1 k2 k3 k4
      go_wp2_with (first |(at_builtin;refine Zas rfl (.tmp 128) (.tmp 130) _ rfl Zkc rfl hoB rfl (Row.bAt6 (S:=fun _=>True) 1 (by simp) (by unfold maxLen;omega) rfl (fun _=>trivial)) (by simp[Value.oneCell']) (by omega) (by unfold maxLen;omega) ?_;intro a9 c9 w9 hA9))
      rw[←He3.out] at hA9
      have hla: ∀ q,blk la=some q->w.heap.size<=q:=Hk4.out
      have hs33:=hKw3.size
      have L9:=LM.app (m:=rsZ) (ms:=xs.map rsM) (ma:=none) (mc:=0) Hk.out.1 Hk.out.2 hla (by simp;omega) (by rw[List.length_map];exact hA9) (RdI.nilw _)
      have E9:=(E3.grow hGz).keep hA9.keep (fun e=>by have:=hla _ e;omega) (fun q hq e=>(hsepN q (hla q e)).2.1 hq) (fun q hq e=>(hsepN q (hla q e)).2.2 hq) fun q hq=>hq.2
      have bD9:=(bD3.grow hGz).keep hA9.keep (Zfl (bD3.grow hGz) HoB.out (by decide))
      have hv9:=(hv3.grow hGz).keep hA9.keep fun q _ hq e=>by have:=hDlt q hq;have:=hla q e;omega
      have hKw9:Keep (fun q=>q≠g/\blk (some (⟨rb,0,none⟩:Addr))≠some q/\blk (some (⟨sb',0,none⟩:Addr))≠some q) w w9:=(((hKw3.trans (hGz.any.mono fun _ _ _=>trivial)).mono (T:=fun q=>q<w.heap.size/\q≠g/\blk (some (⟨rb,0,none⟩:Addr))≠some q/\blk (some (⟨sb',0,none⟩:Addr))≠some q) fun q _ hq=>hq.2).trans (hA9.keep.mono fun q _ hq e=>by have:=hla q e;omega)).mono fun q hlt hq=>⟨hlt,hq⟩
      have hxn:=(HR.out.2.2.2 rfl).1
      have hn1:1<=nn:=by
       rw[Hnn.out,Hnds.out]
       unfold Za0
       rw[if_neg Hop.out]
       split<;>simp
      have hb2: ∀ k,ROk (xs.getD k rs0)/\(rsM (xs.getD k rs0)).cells.length<=1048576:=fun k=>by
       by_cases hkl:k<xs.length
       ·rw[List.getD_eq_getElem?_getD,List.getElem?_eq_getElem hkl]
        exact hxb.out _ (List.getElem_mem hkl)
       ·rw[List.getD_eq_getElem?_getD,List.getElem?_eq_none (by omega)]
        exact ⟨by unfold ROk rsM rs0 rsZ I64;simp,by simp[rsM,rs0,rsZ]⟩
      obtain ⟨hm0,hm1⟩:=Zpm xs (by omega) (by omega)
      obtain ⟨res,hres⟩: ∃ r,r=opF d.op (rsM (xs.getD 0 rs0)) (rsM (xs.getD 1 rs0)):=⟨_,rfl⟩
      have Hval:=hid (show ev nd op l.length i=some (ZfH res) by
       rw[Hy.out,Hnd.out.2,hres]
       unfold opL opD
       rw[Hdi.out]
       simp only
       rw[if_neg Hop.out,if_pos Hall.out]
       rfl)
      obtain ⟨lb,ua,uc,rfl,hlb,⟨u0,u1,u2⟩,rA⟩:=L9.at hm0
      obtain ⟨lb',va,vc,elb, -,⟨v0,v1,v2⟩,rB⟩:=L9.at hm1
      obtain rfl:lb'=lb:=by have:=Option.some.inj elb;simp only[Addr.mk.injEq] at this;exact this.1.symm
      obtain ⟨okA,bdA⟩:=hb2 0
      obtain ⟨okB,bdB⟩:=hb2 1
      have D9:DAt w9 w.heap.size 0 d (.slice dva d.value.cells.length dvc):=DAt.of_blk bD9
      obtain ⟨A,hA⟩: ∃ A,A=rsM (xs.getD 0 rs0):=⟨_,rfl⟩
      obtain ⟨B,hB⟩: ∃ B,B=rsM (xs.getD 1 rs0):=⟨_,rfl⟩
      unfold ROk at okA okB
      rw[←hA] at u0 u1 u2 rA okA bdA hres
      rw[←hB] at v0 v1 v2 rB okB bdB hres
      have hc:=fun (w':World) (hG:Grow w9 w')=>ZlO (U:=D2) (d:=d) (w:=w') ⟨dva,d.value.cells.length,dvc,rfl,hv9.grow hG,hdok⟩ ⟨ua,A.cells.length,uc,rfl,rA.grow hG,okA.1,okA.2⟩ ⟨va,B.cells.length,vc,rfl,rB.grow hG,okB.1,okB.2⟩ bdA bdB
      have hbd:=fun m (h:res=some m)=>ZjT (op:=d.op) (a:=A) (b:=B) (r:=m) (by rw[←hres];exact h)
      rw[←hres] at hc
      have Hc2:=hid hc
      have Hbd:=hid hbd
      have hoff9:w9.heap.size<=w9.heap.size:=Nat.le_refl _
      clear elb hm0 hm1 hb2 hA hB hres hc hbd hxb hxl hA9 hoB HoB Hk Hk4 hla L9 Hall Hy
      have hne9:=hKw9.size
      refine Zck (S:=Grow w9) (T:=fun _=>True) [0,1,2,3,4,5,6] [7,11] [8,9,10] [([],some 12),([13],none)] Zn (by kernel_rfl) (fun _ _ _ _ _ h=>h) (Grow.refl _).drew ?_
      show wpQuiet _ _ _ _ [_,_,_,_,_,_,_] _
      repeat (first |go_big_quiet_skip|(go_big_quiet_want;first |(apply ZR Za7;rfl;rfl;exact (fun w' hG=>D9.grow hG);go_big_quiet_on;simp only[putP])|(apply Zi Za;rfl;rfl;exact (fun w' hG=>⟨hG.cell u0,hG.cell u1,hG.cell u2⟩);go_big_quiet_on;simp only[putP])|(apply Zi Za;rfl;rfl;exact (fun w' hG=>⟨hG.cell v0,hG.cell v1,hG.cell v2⟩);go_big_quiet_on;simp only[putP])|(go_big_quiet_op;first |go_big_quiet_on|(refine ⟨_,(fun _ _=>rfl), ?_⟩;go_big_quiet_on))))
      refine wpQuiet_nil ?_
      refine ⟨by kernel_rfl,FdPost w9.heap.size res,fun _ _=>none,FdPost.stays,(fun _ _ _ _ _ h=>by cases h),(fun _ _ _=>rfl), ?_, ?_, ?_⟩
      ·intro ix hix o' ho a wq hGw hSw hdep hfr K hK
       have hsq:=hSw.size
       simp only[List.mem_cons,List.not_mem_nil,or_false] at hix
       rcases hix with rfl|rfl
       ·obtain rfl:=Option.some.inj (show some _=some _ from ho)
        have t1:a.tmps.getD 133 undef= .agg #[.string d.name,Yv Yi d.op, .string d.a, .string d.b,Yv Yi d.value.rows,Yv Yi d.value.cols, .slice dva d.value.cells.length dvc]:=hfr 133 (by decide)
        have t2:a.tmps.getD 136 undef= .agg #[Yv Yi A.rows,Yv Yi A.cols, .slice ua A.cells.length uc]:=hfr 136 (by decide)
        have t3:a.tmps.getD 139 undef= .agg #[Yv Yi B.rows,Yv Yi B.cols, .slice va B.cells.length vc]:=hfr 139 (by decide)
        refine Zm5 (x:= .tmp 133) (y:= .tmp 136) (z:= .tmp 139) rfl Tryz.func64 rfl rfl t1 t2 t3 ?_
        refine (Hc2.out wq hSw).mono ?_
        rintro e w4 ⟨x,y,ra,rn,rc',rfl,hV,hG4⟩
        exact ⟨_,rfl,hK _ w4 hG4 (hSw.trans hG4) ⟨x,y,ra,rn,rc',rfl,fun m hm=>(hV m hm).weak fun b _ hb=>Nat.le_trans hsq hb⟩ (fun _ h=>by cases h)⟩
       ·obtain rfl:=Option.some.inj (show some _=some _ from ho)
        refine ZeW (z:= .agg #[Yv Yi 0,Yv Yi 0, .slice none 0 0]) rfl (by rfl) ?_
        exact hK _ _ ((Grow.refl _).alloc _ _) (hSw.alloc _ _) ⟨wq.heap.size,rfl,hsq,Blk.new _ _ _⟩ (fun _ h=>by cases h)
      ·intro ix hix o' ho a wq hGw hSw hdep hfr
       simp only[List.mem_cons,List.not_mem_nil,or_false] at hix
       rcases hix with rfl|rfl|rfl
       ·obtain rfl:=Option.some.inj (show some _=some _ from ho)
        exact ⟨a.tmps.getD 140 undef,fun _ _=>rfl,hdep 7 (by decide) ⟨⟨7, .data⟩,by simp,rfl,rfl⟩ 140 rfl⟩
       ·obtain rfl:=Option.some.inj (show some _=some _ from ho)
        obtain ⟨x,y,ra,rn,rc',e4,hV⟩:=hdep 8 (by decide) ⟨⟨8, .data⟩,by simp,rfl,rfl⟩ 132 rfl
        exact ⟨_,fun w' _=>Zcb (x:= .tmp 132) rfl e4 rfl w',x,y,ra,rn,rc',rfl,hV⟩
       ·obtain rfl:=Option.some.inj (show some _=some _ from ho)
        obtain ⟨x,y,ra,rn,rc',e4,hV⟩:=hdep 8 (by decide) ⟨⟨8, .data⟩,by simp,rfl,rfl⟩ 132 rfl
        exact ⟨_,fun w' _=>Zcb (x:= .tmp 132) rfl e4 rfl w',rfl⟩
      ·intro vs wq hGw hSw hP _
       apply Zet
       ·show _=([some 140,some 12,some 132,some 141,some 142]:List (Option Tmp))
        kernel_rfl
       simp only[Zft,List.cons_append,List.nil_append,List.map_cons,List.map_nil,List.zip_cons_cons,List.zip_nil_right,Act.put,List.setIfInBounds_toArray,List.set_cons_succ,List.set_cons_zero]
       refine ⟨?_⟩
       obtain ⟨x,y,ra,rn,rc',e9,hV⟩:=hP 9 (by decide)
       have e10:vs 10= .bool res.isSome:=hP 10 (by decide)
       obtain ⟨mg,e11,hmg,bMg⟩:=hP 11 (by decide)
       rw[e9,e10,e11]
       clear hP e9 e10 e11
       show wpQuiet _ _ _ _ [] _
       apply wpQuiet_nil
       apply Zk rfl
       intro K hK
       obtain ⟨⟨q0,q1',q2⟩,qf0,qf1,qf2⟩:=bMg.three
       have hltm:=bMg.lt
       go_wp2_with fail
       have hKq:Keep (fun q=>q≠mg) wq (((wq.setCell ⟨mg,0,none⟩ (Yv Yi x)).setCell ⟨mg,1,none⟩ (Yv Yi y)).setCell ⟨mg,2,none⟩ (.slice ra rn rc')):=(((Keep.refl _ wq).setCell (fun _ e=>e rfl) _).setCell (fun _ e=>e rfl) _).setCell (fun _ e=>e rfl) _
       have hG9:=hSw.keep hKq fun q hq=>by omega
       have bM9:Blk (((wq.setCell ⟨mg,0,none⟩ (Yv Yi x)).setCell ⟨mg,1,none⟩ (Yv Yi y)).setCell ⟨mg,2,none⟩ (.slice ra rn rc')) mg #[Yv Yi x,Yv Yi y, .slice ra rn rc'] 28:=((bMg.set 0 _).set 1 _).set 2 _
       have hV9: ∀ m,res=some m->VM (((wq.setCell ⟨mg,0,none⟩ (Yv Yi x)).setCell ⟨mg,1,none⟩ (Yv Yi y)).setCell ⟨mg,2,none⟩ (.slice ra rn rc')) (fun _=>True) (.agg #[Yv Yi x,Yv Yi y, .slice ra rn rc']) m:=fun m hm=>by
        have h1:=hV m hm
        obtain ⟨a',n',c',e,o1,o2,o3,o4,o5⟩:=h1
        simp at e
        obtain ⟨rfl,rfl,rfl,rfl,rfl⟩:=e
        exact ⟨_,_,_,rfl,(o1.keep hKq fun q hq _ e=>Zfl bMg o1 (by decide) (e▸hq)).rdI (fun _ _=>trivial) o2,o4,o5⟩
       refine hK _ _ hG9 ?_
       clear hK K
       generalize hw10:(((wq.setCell ⟨mg,0,none⟩ (Yv Yi x)).setCell ⟨mg,1,none⟩ (Yv Yi y)).setCell ⟨mg,2,none⟩ (.slice ra rn rc'))=w10 at *
       clear hw10 hKq q0 q1' q2 qf0 qf1 qf2 hltm hV
       show wpQuiet _ _ _ _ [_] _
       try (conv=>arg 6;simp only[putP])
       repeat (first |go_big_quiet_skip|(go_big_quiet_want;first |(apply ZR Za7;rfl;rfl;exact (fun w' hG=>D9.grow hG);go_big_quiet_on;simp only[putP])|(apply Zi Za;rfl;rfl;exact (fun w' hG=>⟨hG.cell u0,hG.cell u1,hG.cell u2⟩);go_big_quiet_on;simp only[putP])|(apply Zi Za;rfl;rfl;exact (fun w' hG=>⟨hG.cell v0,hG.cell v1,hG.cell v2⟩);go_big_quiet_on;simp only[putP])|(go_big_quiet_op;first |go_big_quiet_on|(refine ⟨_,(fun _ _=>rfl), ?_⟩;go_big_quiet_on))))
       refine wpQuiet_nil ?_
       refine Zm ?_
       have E10:=(E9.grow hG9).weak (T:=fun q=>S q\/w.heap.size<=q) fun q _ hq=>hq.1
       have hKw10:=hKw9.trans (hG9.any.mono fun _ _ _=>trivial)
       obtain ⟨ok,hok⟩: ∃ b,res.isSome=b:=⟨_,rfl⟩
       rw[hok]
       have HV9:=hid hV9
       have Hok:=hid hok
       clear hV9 hok
       clear D9 rA rB u0 u1 u2 v0 v1 v2 bdA bdB okA okB hlb Hc2 hSw hGw bMg hmg hoff9 bD9 E9 hv9 hKw9 hne9 hG9
       cases ok with
       |false=>
        have Hv:=Hval.out
        have e0:res=none:=by have:=Hok.out;cases res with |none=>rfl|some _=>simp at this
        rw[e0] at Hv
        have HHv:=hid Hv
        clear Hv e0
        go_wp2
        go_ret
        exact Zd6 hi H0.out HP.out P HF.out Hc.out.1 Hc.out.2 E10 (.inl ⟨rfl,HHv.out,rfl⟩) hKw10 rfl
       |true=>
        obtain ⟨m,hm⟩:=Option.isSome_iff_exists.1 Hok.out
        have hVm:=HV9.out m hm
        have hbm:=Hbd.out m hm
        have Hv:=Hval.out
        rw[hm] at Hv
        have HHv:=hid Hv
        clear Hv hm
        obtain ⟨⟨x0,x1,x2,x3⟩, -⟩:=E10.bg.four'
        go_wp2
        refine ZN (S:=(Grow w10)) (last:=9) [([0,1,2,3,4,5],some 6),([],some 7),([8],some 9)] Zn (by kernel_rfl) (fun _ _ _ _ _ h=>h) (Grow.refl _).drew ?_
        show wpQuiet _ _ _ _ [_,_,_,_,_,_] _
        repeat (first |go_big_quiet_skip|(go_big_quiet_want;first |(apply Zc ZgU;rfl;rfl;exact (fun w' hG=>hG.cell x1);go_big_quiet_on;simp only[putP])|(apply Ze Za;rfl;rfl;exact (fun w' hG=>bM9.grow hG);go_big_quiet_on;simp only[putP])|(go_big_quiet_op;first |go_big_quiet_on|(refine ⟨_,(fun _ _=>rfl), ?_⟩;go_big_quiet_on))))
        refine wpQuiet_nil ?_
        refine Zx rfl (fun K hK=> ?_)
        go_wp2_with fail
        refine (ZcI (hVm.grow (Grow.refl w10).drew) hbm).mono ?_
        rintro e w11 ⟨rv,rfl,⟨ca,cn,cc,rfl,oC,rC,fC,i1,i2⟩,hG11⟩
        have hG1011:=(Grow.refl w10).drew.trans hG11
        obtain rfl:m.cells.length=cn:=by have:=oC.len;simp[ints] at this;exact this
        go_wp2_with fail
        refine hK _ _ ((fun _=>hG1011)) ?_
        clear hK K
        show wpQuiet _ _ _ _ [] _
        try (conv=>arg 6;simp only[putP])
        refine wpQuiet_nil ?_
        refine Zx rfl (fun K hK=> ?_)
        go_wp2_with fail
        refine hK _ _ ((fun _=>hG1011)) ?_
        clear hK K
        show wpQuiet _ _ _ _ [_] _
        try (conv=>arg 6;simp only[putP])
        repeat (first |go_big_quiet_skip|(go_big_quiet_want;first |(apply Zc ZgU;rfl;rfl;exact (fun w' hG=>hG.cell x1);go_big_quiet_on;simp only[putP])|(apply Ze Za;rfl;rfl;exact (fun w' hG=>bM9.grow hG);go_big_quiet_on;simp only[putP])|(go_big_quiet_op;first |go_big_quiet_on|(refine ⟨_,(fun _ _=>rfl), ?_⟩;go_big_quiet_on))))
        refine wpQuiet_nil ?_
        refine Zx rfl (fun K hK=> ?_)
        have E11:=E10.grow hG1011
        have hs10:=hKw10.size
        obtain ⟨rb',_,_,erb,hrb5, -,⟨v0,v1,v2,v3⟩, -,vf0,vf1,vf2,vf3⟩:=E11.resAt hi
        obtain rfl:rb=rb':=by have:=Option.some.inj erb;simp only[Addr.mk.injEq] at this;exact this.1
        have E12:=E11.setRes (fun q hq e=>(hsepS q hq).2.1 (by rw[e];rfl)) hi (r:=rsS m) (a:=ca) (c:=cc) oC rC (fun q hq=> .inr (by have:=(fC q hq).1;simp at this;omega)) (fun q hq j hj _ e=>by have:=(fC q hq).1;have:=E10.low hj e;simp at *;omega) ⟨⟨i1,i2⟩,hbm⟩
        rw[ZeT,ZeT] at E12
        have hKf:=((((hKw10.trans (hG1011.any.mono fun _ _ _=>trivial)).setCell (p:=⟨rb,i*4,none⟩) (fun _ e=>e.2.1 rfl) (Yv Yi (rsM (rsS m)).rows)).setCell (p:=⟨rb,i*4+1,none⟩) (fun _ e=>e.2.1 rfl) (Yv Yi (rsM (rsS m)).cols)).setCell (p:=⟨rb,i*4+2,none⟩) (fun _ e=>e.2.1 rfl) (.slice ca (rsM (rsS m)).cells.length cc)).setCell (p:=⟨rb,i*4+3,none⟩) (fun _ e=>e.2.1 rfl) (.bool (rsS m).isSome)
        have HE:=hid (And.intro E12 hKf)
        clear E12 hKf erb
        go_wp2_with fail
        refine hK _ _ ((fun h=>(h rfl).elim)) ?_
        clear hK K
        refine Z8 ?_
        go_wp2
        go_ret
        exact Zd6 hi H0.out HP.out P HF.out Hc.out.1 Hc.out.2 HE.out.1 (.inl ⟨rfl,HHv.out,rfl⟩) HE.out.2 rfl
theorem Zk7 {l:List Dfn} {nd:Nat->List (Option Nat)} {op:Nat->List Rs->Rs} {g dc rc sc:Nat} {da ra sa:Option Addr}: ∀ (N:Nat) {D S:Nat->Prop} (i:Nat) (w:World) (st:Nat->Nat) (res:Nat->Rs) (sv:Nat->Value) (fd:Nat),zer st l.length<N->i<l.length->Stk nd l.length st i->FPre w D S g da dc ra rc sa sc l nd op st res sv fd->
  Calls Tryz.prog 36 #[.pointer (some ⟨g,0,none⟩),Yv Yi (i:Int)] w (FPost D S g da dc ra rc sa sc l nd op st res fd i w)
 |0,_,_,_,_,_,_,_,_,h,_,_,_=>by omega
 |N+1,D,S,i,w,st,res,sv,fd,hN,hi,hk,h=>by
  by_cases h0:st i=0
  ·exact ZmQ hi h h0 hk fun i' w' st' res' sv' fd' h1 h2 h3 h4=>Zk7 N i' w' st' res' sv' fd' (by omega) h2 h3 h4
  ·exact ZkD hi h h0
theorem Zga (n:Nat):(madeCells #[Value.int .i64 0,Yv Yi 0, .slice none 0 0, .bool false] (n*4)).toList=ZbB (rsL (fun _=>rs0) n) (svL (fun _=> .slice none 0 0) n):=by
 refine List.ext_getElem? fun i=> ?_
 by_cases hi:i<n*4
 ·obtain ⟨k,j,hj,rfl⟩: ∃ k j,j<4/\i=k*4+j:=⟨i/4,i%4,Nat.mod_lt _ (by omega),by omega⟩
  have hk:k<n:=by omega
  unfold rsL svL
  rw[Zdm (Zaw (fun _=>rs0) hk) (Zaw (fun _=>Value.slice none 0 0) hk) hj]
  have e:(k*4+j)%4=j:=by omega
  unfold madeCells
  simp only[Array.toList_map,Array.toList_range,List.getElem?_map,List.getElem?_range hi,Option.map_some]
  simp only[show (#[Value.int .i64 0,Yv Yi 0, .slice none 0 0, .bool false]:Array Value).size=4 from rfl,e]
  match j,hj with
  |0,_=>rfl
  |1,_=>rfl
  |2,_=>rfl
  |3,_=>rfl
 ·rw[List.getElem?_eq_none (by simp[madeCells];omega),List.getElem?_eq_none (by rw[Zhf (by simp[rsL,svL])];simp[rsL];omega)]
theorem Znz (n:Nat):stL (fun _=>0) n=List.replicate n 0:=by
 unfold stL
 apply List.ext_getElem
 ·simp
 ·intro i h1 h2;simp
theorem ZkV: ∀ n,zer (fun _=>0) n=n
 |0=>rfl
 |n+1=>by simp[zer,ZkV n]
def EvPost (z n:Nat):Nat->Value->World->Prop
 |3,v,w=> ∃ g,v= .slice (some ⟨g,0,none⟩) n n/\z<=g/\Own w 39 4 (some ⟨g,0,none⟩) n n (ZbB (rsL (fun _=>rs0) n) (svL (fun _=> .slice none 0 0) n))
 |6,v,w=> ∃ g,v= .slice (some ⟨g,0,none⟩) n n/\z<=g/\Own w 3 1 (some ⟨g,0,none⟩) n n (ints (stL (fun _=>0) n))
 |_,_,_=>True
theorem EvPost.stays: ∀ i v w w',Grow w w'->EvPost z n i v w->EvPost z n i v w':=fun i v w w' hG h=>by
 unfold EvPost at *
 split at h
 ·obtain ⟨g,h1,h2,h3⟩:=h;exact ⟨g,h1,h2,h3.grow hG⟩
 ·obtain ⟨g,h1,h2,h3⟩:=h;exact ⟨g,h1,h2,h3.grow hG⟩
 ·trivial
def Zae (l:List Dfn):List Rs:=if Zbr l=true then rsL (ZlA opF l) l.length else []
theorem ZhC (h:Zbr l=true): ∀ d∈l,d.value.cells.length<=1048576:=fun d hd=>by
 have h1:=(ZcA h).1 d hd
 unfold Zh at h1
 simp only[Bool.and_eq_true] at h1
 have h2:=h1.2.2
 have hz:ZL d.value=true->d.value.cells.length<=1048576:=fun hz=>by
  unfold ZL at hz
  simp at hz
  simp[hz]
 split at h2
 ·simp only[Bool.and_eq_true] at h2
  have:=Zi7 h2.2.2
  unfold bdM at this
  omega
 ·split at h2
  ·simp only[Bool.and_eq_true] at h2;exact hz h2.2.2
  ·simp only[Bool.and_eq_true] at h2;exact hz h2.2.2
theorem Zjx {P:Program} {o:Oper} {a:Act} {K:Act->World->Prop} {Q:Exit->Act->World->Prop} {t e:TypeId} {z:Value} {sz bytes:Nat} {x y:Operand} (ho:o.op= .makeSlice t x y) (hT:SlT P t e z sz bytes) (hx:a.eval x=Yv Yi (n:Int)) (hy:a.eval y=Yv Yi (n:Int)) (hb:bytes*n<=281474976710656) (h63:n<=maxLen)
  (h:K (a.put o.dst (.slice (some ⟨w.heap.size,0,none⟩) n n)) (w.alloc (.cells (madeCells z.cells (n*sz)) e))):o.wp P a w K Q:=by
 refine ZiB (v:= .slice (some ⟨w.heap.size,0,none⟩) n n) ?_ h
 have:=hT.make hb h63 w
 unfold execOp
 simp only[ho,hx,hy,Sem.run_bind,this,Result.andThen_ok,Sem.run_pure]
def EvLp (w:World) (z:Nat) (D:Nat->Prop) (g:Nat) (da:Option Addr) (dc:Nat) (ra:Option Addr) (rc:Nat) (sa:Option Addr) (sc:Nat) (l:List Dfn) (k:Nat) (wr:World):Prop:=
 ∃ st res sv fd,FPre wr D (fun q=>z<=q) g da dc ra rc sa sc l (ndL l) (opL opF l) st res sv fd/\Grow w wr/\z<=wr.heap.size/\(∀ j,j<l.length->st j≠1)/\ ∀ j,j<l.length->j<k->st j≠0
theorem EvLp.next {w':World} {k:Nat} {e:Ending} (h:FPre wr D (fun q=>z<=q) g da dc ra rc sa sc l (ndL l) (opL opF l) st res sv fd) (hG:Grow w wr) (hz:z<=wr.heap.size) (h1: ∀ j,j<l.length->st j≠1) (h0: ∀ j,j<l.length->j<k->st j≠0) (hlow: ∀ q,q<w.heap.size->q≠g/\blk ra≠some q/\blk sa≠some q)
  (hP:FPost D (fun q=>z<=q) g da dc ra rc sa sc l (ndL l) (opL opF l) st res fd k wr e w'):(∃ b,e= .returned (.bool b))/\EvLp w z D g da dc ra rc sa sc l (k+1) w':=by
 obtain ⟨st',res',sv',fd',he,hF,hE,hk, -, -,hK⟩:=hP
 refine ⟨⟨_,he⟩,st',res',sv',fd',hF.weak (fun q _ hq=>by omega) (fun q hq=>h.sep q hq),hG.keep hK (fun q hq=>hlow q hq),Nat.le_trans hz hK.size,fun j hj e1=> ?_,fun j hj hjk e0=> ?_⟩
 ·by_cases hj0:st j=0
  ·rcases hE.news j hj hj0 with h2|h2|h2<;>omega
  ·have:=(hE.keep j hj hj0).1;have:=h1 j hj;omega
 ·by_cases hjk':j=k
  ·exact hk (hjk'▸e0)
  ·have:=h0 j hj (by omega)
   have:=(hE.keep j hj this).1
   omega
theorem EvLp.fin (h:EvLp w z D g da dc ra rc sa sc l n wr) (hn:l.length=n) (hs:Zbr l=true) (hz:w.heap.size<=z) (hr: ∀ q,blk ra=some q->w.heap.size<=q/\q<z):
  SepR wr (fun q=>w.heap.size<=q) ra (Zae l).length rc (Zae l)/\Grow w wr/\ ∀ r∈Zae l,(rsM r).cells.length<=1048576:=by
 obtain ⟨st,res,sv,fd,hF,hG, -,h1,h0⟩:=h
 have e:Zae l=rsL res l.length:=by
  unfold Zae rsL
  rw[if_pos hs]
  refine List.map_congr_left fun j hj=> ?_
  have hj':=List.mem_range.1 hj
  have:=hF.le3 j hj'
  have:=h1 j hj'
  have:=h0 j hj' (by omega)
  unfold ZlA evL
  rcases (show st j=2\/st j=3 by omega) with h2|h2
  ·rw[hF.inv.two j hj' h2];rfl
  ·rw[hF.inv.three j hj' h2,hF.none3 j hj' h2];rfl
 have el:(rsL res l.length).length=l.length:=by simp[rsL]
 have hok: ∀ r∈rsL res l.length,ROk r/\(rsM r).cells.length<=1048576:=fun r hr=>by
  obtain ⟨j,hj,rfl⟩:=List.mem_map.1 hr
  exact hF.ev.ok j (List.mem_range.1 hj)
 rw[e,el]
 exact ⟨⟨⟨svL sv l.length,hF.ev.oR,hF.ev.inn.weak fun q _ hq _=>⟨Nat.le_trans hz hq,fun e=>by have:=(hr q e).2;omega⟩⟩,el,fun r hr=>(hok r hr).1,fun q hq=>(hr q hq).1⟩,hG,fun r hr=>(hok r hr).2⟩
theorem Zpf {a:Option Addr} {cap:Nat} (h:RdD w D a n cap l) (hn:n<=1048576) (hcl: ∀ d∈l,d.value.cells.length<=2097152):
  Calls Tryz.prog 10 #[.slice a n cap] w fun e w'=> ∃ a' c',e= .returned (.slice a' (Zae l).length c')/\SepR w' (fun q=>w.heap.size<=q) a' (Zae l).length c' (Zae l)/\Grow w w'/\ ∀ r∈Zae l,(rsM r).cells.length<=1048576:=by
 have hl:=h.len
 go_enter Tryz.func10,Tryz.ntmps10
 go_wp2_with fail
 refine (Zjg a n cap l w h hn hcl).mono ?_
 rintro e w1 ⟨rfl,hG1⟩
 cases hs:Zbr l with
 |false=>
  have Hs:=hid hs;clear hs
  go_wp2_with fail
  go_ret
  have e0:Zae l=[]:=by unfold Zae;rw[Hs.out];rfl
  rw[e0]
  exact ⟨_,_,rfl,⟨⟨[],Own.freshAt (e:=39) (sz:=4) (cs:= #[]) (n:=0) rfl (by unfold maxLen;omega) rfl,Inner.nilw⟩,rfl,fun _ h=>(by cases h),fun q hq=>by have:=hG1.size;simp at hq;omega⟩,hG1.alloc _ _,fun _ h=>by cases h⟩
 |true=>
  have Hs:=hid hs;clear hs
  have h1:=h.grow hG1
  go_wp2_with fail
  refine Zck (S:=Grow w1) (T:=fun _=>True) [0,1,2,4,5] [3,6] [] [([],some 7),([],some 8),([9],none)] Zn (by kernel_rfl) (fun _ _ _ _ _ h=>h) (Grow.refl _).drew ?_
  show wpQuiet _ _ _ _ [_,_,_,_,_] _
  repeat (first |go_big_quiet_skip|(go_big_quiet_want;first |(go_big_quiet_op;first |go_big_quiet_on|(refine ⟨_,(fun _ _=>rfl), ?_⟩;go_big_quiet_on))))
  refine wpQuiet_nil ?_
  refine ⟨by kernel_rfl,EvPost w1.heap.size n,fun _ _=>none,EvPost.stays,(fun _ _ _ _ _ h=>by cases h),(fun _ _ _=>rfl), ?_, ?_, ?_⟩
  ·intro i hi o ho a w2 hGw hSw hdep hfr K hK
   have t11:a.tmps.getD 11 undef=Yv Yi n:=hfr 11 (by decide)
   have t14:a.tmps.getD 14 undef=Yv Yi n:=hfr 14 (by decide)
   have hs2:=hSw.size
   simp only[List.mem_cons,List.not_mem_nil,or_false] at hi
   rcases hi with rfl|rfl
   ·obtain rfl:=Option.some.inj (show some _=some _ from ho)
    refine Zjx (x:= .tmp 11) (y:= .tmp 11) rfl T_ress t11 t11 (by omega) (by unfold maxLen;omega) ?_
    exact hK _ _ ((Grow.refl _).alloc _ _) (hSw.alloc _ _) ⟨_,rfl,hs2,by
     have:=Own.freshAt (w:=w2) (e:=39) (sz:=4) (cs:=madeCells #[Yv Yi 0,Yv Yi 0, .slice none 0 0, .bool false] (n*4)) (n:=n) rfl (by unfold maxLen;omega) (by simp[madeCells])
     rw[Zga] at this
     exact this⟩ (fun _ h=>by cases h)
   ·obtain rfl:=Option.some.inj (show some _=some _ from ho)
    refine Zjx (x:= .tmp 14) (y:= .tmp 14) rfl T_ints t14 t14 (by omega) (by unfold maxLen;omega) ?_
    exact hK _ _ ((Grow.refl _).alloc _ _) (hSw.alloc _ _) ⟨_,rfl,hs2,by
     have:=Own.freshAt (w:=w2) (e:=3) (sz:=1) (cs:=madeCells #[Yv Yi 0] (n*1)) (n:=n) rfl (by unfold maxLen;omega) (by simp[madeCells])
     rw[Zio, ←Znz] at this
     exact this⟩ (fun _ h=>by cases h)
  ·intro i hi
   simp at hi
  ·intro vs w2 hGw hSw hP _
   apply Zet
   ·show _=([some 12,some 15]:List (Option Tmp))
    kernel_rfl
   simp only[Zft,List.cons_append,List.nil_append,List.map_cons,List.map_nil,List.zip_cons_cons,List.zip_nil_right,Act.put,List.setIfInBounds_toArray,List.set_cons_succ,List.set_cons_zero]
   refine ⟨?_⟩
   obtain ⟨rb,e3,hr3,oR⟩: ∃ g,vs 3= .slice (some ⟨g,0,none⟩) n n/\w1.heap.size<=g/\Own w2 39 4 (some ⟨g,0,none⟩) n n (ZbB (rsL (fun _=>rs0) n) (svL (fun _=> .slice none 0 0) n)):=hP 3 (by decide)
   obtain ⟨sb,e6,hr6,oS⟩: ∃ g,vs 6= .slice (some ⟨g,0,none⟩) n n/\w1.heap.size<=g/\Own w2 3 1 (some ⟨g,0,none⟩) n n (ints (stL (fun _=>0) n)):=hP 6 (by decide)
   rw[e3,e6]
   clear hP e3 e6
   show wpQuiet _ _ _ _ [] _
   apply wpQuiet_nil
   apply Zk rfl
   intro K hK
   go_wp2_with fail
   refine hK _ _ hSw ?_
   clear hK K
   show wpQuiet _ _ _ _ [] _
   try (conv=>arg 6;simp only[putP])
   refine wpQuiet_nil ?_
   refine Zk rfl (fun K hK=> ?_)
   go_wp2_with fail
   refine hK _ _ (hSw.alloc _ _) ?_
   clear hK K
   show wpQuiet _ _ _ _ [_] _
   try (conv=>arg 6;simp only[putP])
   repeat (first |go_big_quiet_skip|(go_big_quiet_want;first |(go_big_quiet_op;first |go_big_quiet_on|(refine ⟨_,(fun _ _=>rfl), ?_⟩;go_big_quiet_on))))
   refine wpQuiet_nil ?_
   refine Zm ?_
   have hs2:=hSw.size
   obtain ⟨w3,hw3⟩: ∃ w3,w3=w2.alloc (.cells #[.slice a n cap, .slice (some ⟨rb,0,none⟩) n n, .slice (some ⟨sb,0,none⟩) n n,Yv Yi 0] 69):=⟨_,rfl⟩
   have hG3:Grow w2 w3:=by rw[hw3];exact (Grow.refl _).alloc _ _
   have b3:Blk w3 w2.heap.size #[.slice a n cap, .slice (some ⟨rb,0,none⟩) n n, .slice (some ⟨sb,0,none⟩) n n,Yv Yi 0] 69:=by rw[hw3];exact Blk.new _ _ _
   rw[←hw3]
   have hs3:w3.heap.size=w2.heap.size+1:=by rw[hw3];simp
   clear hw3
   have hG03:Grow w w3:=(hG1.trans hSw).trans hG3
   have hsh:=ZcA Hs.out
   have hrl:=oR.lt (g:=rb) rfl
   have hsl:=oS.lt (g:=sb) rfl
   have hP0:FPre w3 (fun q=>D q/\q<w.heap.size) (fun q=>w3.heap.size<=q) w2.heap.size a cap (some ⟨rb,0,none⟩) n (some ⟨sb,0,none⟩) n l (ndL l) (opL opF l) (fun _=>0) (fun _=>rs0) (fun _=> .slice none 0 0) 0:=by
    have hw:=hG1.size
    refine ⟨⟨by rw[hl];exact b3,by rw[hl];exact oR.grow hG3,by rw[hl];exact oS.grow hG3, ?_,fun _ _=>⟨by unfold ROk rsM rs0 rsZ I64;simp,by simp[rsM,rs0,rsZ]⟩⟩,fun q hq=>⟨by omega,fun e=>by simp at e;omega,fun e=>by simp at e;omega⟩,by rw[hl];exact (h.weak fun q hlt hq=>⟨hq,hlt⟩).grow hG03,fun q hq=>⟨by have:=hq.2;omega,fun e=>by have:=hq.2;simp at e;omega,fun e=>by have:=hq.2;simp at e;omega⟩,⟨fun _ _ h=>by simp at h,fun _ _ h=>by simp at h⟩,fun _ _ _=>⟨rfl,fun _=>rfl⟩,Zol,fun _ _=>Nat.zero_le _, ?_,ZhC Hs.out, ?_,fun _ _ h=>by simp at h⟩
    ·refine ⟨by simp[svL,rsL],fun i xs hi=> ?_,List.pairwise_iff_getElem.2 fun p q hp hq _ b e=>by simp[svL,Zbd] at e⟩
     have hk:i<l.length:=by
      have h2:=(List.getElem?_eq_some_iff.1 hi).1
      simpa [ZaX,rsL] using h2
     have h3:(rsL (fun _=>rs0) l.length)[i]? =some rs0:=Zaw (fun _=>rs0) hk
     rw[ZbI h3] at hi
     obtain rfl:=Option.some.inj hi
     exact ⟨none,0,Zaw (fun _=>Value.slice none 0 0) hk,Own.nilw,fun _ h=>(by cases h),fun _ h=>by simp at h⟩
    ·rw[ZkV];have:=hsh.2;omega
    ·have:=hsh.2;omega
   have HP0:=hid hP0
   have Hl:=hid hl
   clear hP0 b3 oR oS h h1 hrl hsl hsh hcl hl
   go_wp2
   go_loopw [20] (fun i wr=> ∃ k:Nat,k<=n/\i=Yv Yi k/\EvLp w w3.heap.size (fun q=>D q/\q<w.heap.size) w2.heap.size a cap (some ⟨rb,0,none⟩) n (some ⟨sb,0,none⟩) n l k wr) (fun i _=>n-(intOf i).toNat)
   case atStart=>exact ⟨0,Nat.zero_le _,rfl,_,_,_,_,HP0.out,hG03,Nat.le_refl _,fun _ _=>by simp,fun _ _ h=>by omega⟩
   case round=>
    obtain ⟨k,hk,rfl,hL⟩:=hrel
    by_cases hlt:k<n
    ·obtain ⟨st,res,sv,fd,hF,hGr,hzr,hs1,hs0⟩:=hL
     have HF:=hid (And.intro hF (And.intro hGr (And.intro hzr (And.intro hs1 hs0))))
     clear hF hGr hzr hs1 hs0 HP0
     go_wp2_with fail
     refine (Zk7 (zer st l.length+1) k _ st res sv fd ?_ ?_ ?_ HF.out.1).mono ?_
     ·exact Nat.lt_succ_self _
     ·rw[Hl.out];exact hlt
     ·intro j hj e1;exact absurd e1 (HF.out.2.2.2.1 j hj)
     rintro e w4 hPo
     obtain ⟨⟨bb,rfl⟩,hL⟩:=EvLp.next HF.out.1 HF.out.2.1 HF.out.2.2.1 HF.out.2.2.2.1 HF.out.2.2.2.2 (fun q hq=>⟨by have:=hG1.size;omega,fun e=>by have:=hG1.size;simp at e;omega,fun e=>by have:=hG1.size;simp at e;omega⟩) hPo
     go_wp2_with fail
     go_roundw
     case rel=>exact ⟨k+1,by omega,by go_num,hL⟩
     case measure=>simp[intOf];omega
    ·obtain rfl:k=n:=by omega
     have hFi:=hL.fin Hl.out Hs.out (by have:=hG03.size;omega) (fun q hq=>by have:=hG1.size;have:=hG3.size;have:=HP0.out.lts.2.1 q hq;simp at hq;omega)
     obtain ⟨st,res,sv,fd,hF, -⟩:=hL
     obtain ⟨⟨x0,x1,x2,x3⟩, -⟩:=hF.ev.bg.four'
     rw[Hl.out] at x1
     have HFi:=hid hFi
     have hel:(Zae l).length=k:=by unfold Zae;rw[if_pos Hs.out];simp[rsL,Hl.out]
     have Hel:=hid hel
     clear hF hFi HP0 hel
     go_wp2_with fail
     go_ret
     exact ⟨some ⟨rb,0,none⟩,k,by rw[Hel.out];rfl,HFi.out.1,HFi.out.2.1,HFi.out.2.2⟩

end Go.Proofs.YtgeoehnbpkediaaGreat
