/- SetDef: the reference's. -/
import Derived.Test.YtgeoehnbpkediaaGreatZStr
set_option maxHeartbeats 8000000
set_option maxRecDepth 100000
namespace Go.Proofs.YtgeoehnbpkediaaGreat
open Go.RowKit
open Lib (hid)
open Go.Value renaming int->Yv
open Go.IntKind renaming i64->Yi
theorem Zg8 {S T:Nat->Prop} (a:Option Addr) (n cap:Nat) (l:List Dfn) (dv:Value) (d:Dfn) (w:World) (h:RdD w S a n cap l) (hd:VD w T dv d) (hb:ZbQ l<=1048576) (hbd:bdD d<=1048576):
  Calls Tryz.prog 37 #[.slice a n cap,dv] w fun e w'=> ∃ r,e= .returned (.tuple #[r, .bool (Zy l d).2])/\ODD w' (New w w') r (Zy l d).1/\Grow w w':=by
 have Hl:=hid h.len;have hcl:=Zgl hb;have hn:n<=1048576:=by unfold ZbQ at hb;rw[←Hl.out];omega
 obtain ⟨av,nv,cv,rfl,hv,hok⟩:=hd;have hnv:d.value.cells.length=nv:=hv.len;subst hnv;have hcd:d.value.cells.length<=1048576:=by unfold bdD at hbd;omega
 obtain ⟨w0,hw0,hG0,hB0,hs0⟩:=al1 w #[.string d.name,Yv Yi d.op, .string d.a, .string d.b,Yv Yi d.value.rows,Yv Yi d.value.cols, .slice av d.value.cells.length cv] 30;have Hw0:=hid hw0;clear hw0;generalize hfn:Zj l d.name=fn at *;have hset:Zn l d=if 0<=fn then l.set fn.toNat d else l++[d]:=by unfold Zn;rw[hfn]
 have hfl:fn<l.length:=by rw[←hfn];exact Zeu
 have hfl1: -1<=fn:=by rw[←hfn];exact (Zce _ l).1
 have Hfn:=hid hfn;clear hfn;go_enter Tryz.func37,Tryz.ntmps37;go_wp2;rw[←Hw0.out];go_loopw [6,7] (fun v i wr=>Grow w0 wr/\ ∃ (k c1:Nat) (a1:Option Addr),k<=n/\i=Yv Yi k/\v= .slice a1 k c1/\SepD wr (New w0 wr) a1 k c1 (l.take k)) (fun _ i _=>n-(intOf i).toNat);case atStart=>refine ⟨(Grow.refl w0).alloc _ _,0,0,_,Nat.zero_le _,rfl,rfl, ?_⟩;exact SepD.nilAt (by omega) rfl ⟨by omega,by simp;omega⟩
 case round=>
  obtain ⟨hG,k,c1,a1,hk,rfl,rfl,hS⟩:=hrel;by_cases hlt:k<n
  ·obtain ⟨b,off,x,ax,cx,rfl,hx,_,hbw,⟨e0,e1,e2,e3,e4,e5,e6⟩,r1,ho⟩:=(h.grow (hG0.trans hG)).at hlt;have htot:=(ZfL hx).2;have hcx:x.value.cells.length<=1048576:=(by unfold ZbQ at hb;unfold bdD at htot;omega);have Hx:=hid hx;clear hx htot;obtain ⟨wb,hwb,hGb,hBb,hsb⟩:=al1 wr #[.string x.name,Yv Yi x.op, .string x.a, .string x.b,Yv Yi x.value.rows,Yv Yi x.value.cols, .slice ax x.value.cells.length cx] 30;have Hwb:=hid hwb;clear hwb;have hvm:VM wb S (.agg #[Yv Yi x.value.rows,Yv Yi x.value.cols, .slice ax x.value.cells.length cx]) x.value:=⟨ax,_,cx,rfl,r1.grow hGb,ho.2.2.2.2.1,ho.2.2.2.2.2⟩;have p4:=hGb.cell e4;have p5:=hGb.cell e5;have p6:=hGb.cell e6;go_wp2_with fail;rw[←Hwb.out];refine (Zdy hvm hcx).mono ?_;rintro e w1 ⟨v',rfl,⟨am,nm,cm,rfl,om,xm,fm,hmr,hmc⟩,hG1⟩;have hnm:x.value.cells.length=nm:=(by simpa using om.len);subst hnm;have hB1:=hBb.grow hG1;obtain ⟨⟨y0,y1,y2,y3,y4,y5,y6⟩, -⟩:=hB1.seven;have f4:=hB1.free 4;have f5:=hB1.free 5;have f6:=hB1.free 6;have hK:Keep (fun q=>q≠wr.heap.size) w1 (((w1.setCell ⟨wr.heap.size,4,none⟩ (Yv Yi x.value.rows)).setCell ⟨wr.heap.size,5,none⟩ (Yv Yi x.value.cols)).setCell ⟨wr.heap.size,6,none⟩ (.slice am x.value.cells.length cm)):=
    (((Keep.refl _ w1).setCell (fun _ e=>e rfl) _).setCell (fun _ e=>e rfl) _).setCell (fun _ e=>e rfl) _
   have hGk:Grow wr (((w1.setCell ⟨wr.heap.size,4,none⟩ (Yv Yi x.value.rows)).setCell ⟨wr.heap.size,5,none⟩ (Yv Yi x.value.cols)).setCell ⟨wr.heap.size,6,none⟩ (.slice am x.value.cells.length cm)):=(hGb.trans hG1).keep hK fun q hq=>(by omega);have omk:=om.keep hK (fun g hg _ e=>by have:=(fm g hg).1;omega);have hfr: ∀ q,blk am=some q->wr.heap.size<=q:=fun q hq=>(by have:=(fm q hq).1;omega);have hsw:=hG.size;clear hG1 hGb hK om fm hB1 p4 p5 p6;obtain ⟨⟨ss,hO,hI⟩,hlS,hokS,hloS⟩:=hS;have hOk:=hO.grow hGk;go_wp2_with (at_builtin;refine ZS rfl (.tmp 28) (.tmp 30) _ rfl T_defs rfl (hOk.grow ((Grow.refl _).alloc _ _)) rfl (Row.builtAt (S:=fun _=>True) 1 (by simp) (by unfold maxLen;omega) rfl fun _=>trivial) (by simp[Value.oneCell']) (by omega) (by unfold maxLen;omega) ?_;intro a3 c3 w3 hA3);have hGz:=hGk.alloc #[.string x.name,Yv Yi x.op, .string x.a, .string x.b,Yv Yi x.value.rows,Yv Yi x.value.cols, .slice am x.value.cells.length cm] 30;have hS3:=SepD.app ((hI.grow hGz).weak fun b hb hF hne=>⟨⟨hF.1,hb⟩,hne⟩) hlS hokS (fun g hg=>⟨(hloS g hg).1,Nat.lt_of_lt_of_le (hloS g hg).2 hGz.size⟩) (omk.grow ((Grow.refl _).alloc _ _)) r1.rng ho (Fresh.mk' hI (fun g hg=>(hloS g hg).2) hsw hfr) (by have:=hGz.size;omega) hA3;have hG3:Grow w0 w3:=hA3.grow (hG.trans (hGk.alloc _ _)) (fun g hg=>(hloS g hg).1);rw[←Z8 Hx.out] at hS3;clear hA3;go_wp2;go_roundw;case rel=>exact ⟨hG3,k+1,c3,a3,by omega,by go_num,rfl,hS3⟩
   case measure=>simp[intOf];omega
  ·have hk0:k=n:=(by omega);subst hk0;rw[ZaN Hl.out] at hS;generalize hww:wr=w2 at *;clear hww;have hS2:=hS;clear hS;have hG2:=hG;have hGa:=hG0.trans hG2;have hs2:=hG2.size;have hB2:=hB0.grow hG2;obtain ⟨⟨z0,z1,z2,z3,z4,z5,z6⟩, -⟩:=hB2.seven;have hvm:VM w2 T (.agg #[Yv Yi d.value.rows,Yv Yi d.value.cols, .slice av d.value.cells.length cv]) d.value:=⟨av,_,cv,rfl,hv.grow hGa,hok.2.2.2.2.1,hok.2.2.2.2.2⟩;go_wp2_with fail;refine (Zdy hvm hcd).mono ?_;rintro e w3 ⟨v',rfl,⟨am,nm,cm,rfl,om,xm,fm,hmr,hmc⟩,hG3⟩;have hnm:d.value.cells.length=nm:=(by simpa using om.len);subst hnm;have hs3:=hG3.size;have hB3:=hB2.grow hG3;obtain ⟨⟨y0,y1,y2,y3,y4,y5,y6⟩, -⟩:=hB3.seven;have f4:=hB3.free 4;have f5:=hB3.free 5;have f6:=hB3.free 6;have hK:Keep (fun q=>q≠w.heap.size) w3 (((w3.setCell ⟨w.heap.size,4,none⟩ (Yv Yi d.value.rows)).setCell ⟨w.heap.size,5,none⟩ (Yv Yi d.value.cols)).setCell ⟨w.heap.size,6,none⟩ (.slice am d.value.cells.length cm)):=
    (((Keep.refl _ w3).setCell (fun _ e=>e rfl) _).setCell (fun _ e=>e rfl) _).setCell (fun _ e=>e rfl) _
   have hGk:=(hGa.trans hG3).keep hK fun q hq=>(by omega);have omk:=om.keep hK (fun g hg _ e=>by have:=(fm g hg).1;omega);have hfr: ∀ q,blk am=some q->w2.heap.size<=q:=fun q hq=>(fm q hq).1;have hBk:=((hB3.set 4 (Yv Yi d.value.rows)).set 5 (Yv Yi d.value.cols)).set 6 (.slice am d.value.cells.length cm);simp only[List.setIfInBounds_toArray,List.set_cons_succ,List.set_cons_zero] at hBk;go_wp2_with fail;refine (Zbb _ _ _ l d.name _ (h.grow hGk) (by omega)).mono ?_;rintro e w4 ⟨rfl,hw4⟩;have hG4:Grow (((w3.setCell ⟨w.heap.size,4,none⟩ (Yv Yi d.value.rows)).setCell ⟨w.heap.size,5,none⟩ (Yv Yi d.value.cols)).setCell ⟨w.heap.size,6,none⟩ (.slice am d.value.cells.length cm)) w4:=(by rw[←hw4];exact Grow.refl _);clear hw4;rw[Hfn.out];have hKa:Keep (fun q=>q≠w.heap.size) w2 w4:=(hG3.mono fun _ _ _=>trivial).trans (hK.trans (hG4.mono fun _ _ _=>trivial));have hs4:=hKa.size;obtain ⟨⟨ss,hO,hI⟩,hlS,hokS,hloS⟩:=hS2;have hFr:Fresh w a1 am ss:=Fresh.mk' hI (fun g hg=>(hloS g hg).2) (by omega) hfr;have hO4:=hO.keep hKa (fun g hg _ e=>by have:=(hloS g hg).1;omega);have hI4:Inner w4 (New w w4) (blk a1) ss (ZaY l):=(hI.keep hKa (fun b hb hF _ e=>by have:=hF.1;omega)).weak fun b hb hF hne=>⟨⟨by have:=hF.1;omega,hb⟩,hne⟩;have hlo4: ∀ g,blk a1=some g->New w w4 g:=fun g hg=>⟨by have:=(hloS g hg).1;omega,by have:=(hloS g hg).2;omega⟩;have om4:=omk.grow hG4;have hG04:=hGk.trans hG4;have hclS: ∀ x∈Zn l d,x.value.cells.length<=2097152:=fun x hx=>by
    rcases ZhE hx with hx|rfl
    ·exact hcl x hx
    ·omega
   have hB4:=hBk.grow hG4;have hlb:=Hl.out;obtain ⟨⟨y0,y1,y2,y3,y4,y5,y6⟩, -⟩:=hB4.seven;clear hO hI hloS om hB3 hB2 f4 f5 f6 z0 z1 z2 z3 z4 z5 z6 hvm hK hKa omk hfr hBk hGk hG3 hG4 fm;by_cases hq:0<=fn
   ·obtain ⟨k,rfl⟩: ∃ k:Nat,fn=k:=⟨fn.toNat,by omega⟩;rw[if_pos hq] at hset;simp only[Int.toNat_natCast] at hset;have hkl:k<l.length:=(by omega);cases a1 with
    |none=>have:=hO4.nil rfl;have:=hO4.le;omega
    |some p=>
     have hp:=(hO4.block p rfl).1;obtain ⟨pb,po,ps⟩:=p;simp only[Addr.mk.injEq,true_and] at hp;obtain ⟨rfl,rfl⟩:=hp;have hlen:(ZaO l ss).length=l.length*7:=Zh7 (by have:=hI4.len;simpa using this);obtain ⟨c0,e0⟩:=hO4.has (j:=k*7) (by omega);obtain ⟨c1',e1⟩:=hO4.has (j:=k*7+1) (by omega);obtain ⟨c2,e2⟩:=hO4.has (j:=k*7+2) (by omega);obtain ⟨c3,e3⟩:=hO4.has (j:=k*7+3) (by omega);obtain ⟨c4,e4⟩:=hO4.has (j:=k*7+4) (by omega);obtain ⟨c5,e5⟩:=hO4.has (j:=k*7+5) (by omega);obtain ⟨c6,e6⟩:=hO4.has (j:=k*7+6) (by omega);have f0:=hO4.free (k*7);have f1:=hO4.free (k*7+1);have f2:=hO4.free (k*7+2);have f3:=hO4.free (k*7+3);have f4:=hO4.free (k*7+4);have f5:=hO4.free (k*7+5);have f6:=hO4.free (k*7+6);simp only at e0 e1 e2 e3 e4 e5 e6 f0 f1 f2 f3 f4 f5 f6;obtain ⟨hS5,hK5⟩:=SepD.put hO4 hI4 hlS hokS (hlo4 pb rfl) om4 hv.rng hok hFr hkl;rw[←hset] at hS5;have hGW:=hG04.keep hK5 fun q hq e=>(by have:=(hlo4 pb rfl).1;omega);have hW5:=hK5.size;clear hO4 hI4 hset;go_wp2_with fail;refine (ZaV _ _ _ l _ (h.grow hGW) hn hcl).mono ?_;rintro e w6 ⟨rfl,hG6⟩;cases hs:Zp l with
     |false=>
      have HN:=hid (Zba (l:=l) (d:=d) (by rw[hs];rfl));have H5:=hid hs;clear hs;have hsz:=(hGW.trans hG6).size;go_wp2
      go_ret2
      exact ⟨_,by rw[HN.out];rfl,⟨_,_,_,rfl,by rw[HN.out];exact SepD.nilAt rfl rfl ⟨hsz,by simp⟩⟩,(hGW.trans hG6).alloc _ _⟩
     |true=>
      have hl12:=Zfm hs;have HS:=hid hs;clear hs;go_wp2_with fail;refine (ZaV _ _ _ (Zn l d) _ ((hS5.grow hG6).rdD (S:=fun _=>True) fun _ _=>trivial) (by omega) hclS).mono ?_;rintro e w7 ⟨rfl,hG7⟩;have hGz:=(hGW.trans hG6).trans hG7;have hsz:=hGz.size;cases hs5:Zp (Zn l d) with
      |false=>
       have HN:=hid (Zba (l:=l) (d:=d) (by rw[hs5];simp));have H5:=hid hs5;clear hs5;go_wp2
       go_ret2
       exact ⟨_,by rw[HN.out];rfl,⟨_,_,_,rfl,by rw[HN.out];exact SepD.nilAt rfl rfl ⟨hsz,by simp⟩⟩,hGz.alloc _ _⟩
      |true=>
       have HY:=hid (ZbI HS.out hs5);have H5:=hid hs5;clear hs5;go_wp2
       go_ret2
       exact ⟨_,by rw[HY.out];rfl,⟨_,_,_,rfl,by rw[HY.out];exact ((hS5.grow hG6).grow hG7).weak fun b hb hF=>⟨hF.1,hb⟩⟩,hGz⟩
   ·rw[if_neg hq] at hset;go_wp2_with (at_builtin;refine ZS rfl (.tmp 46) (.tmp 48) _ rfl T_defs rfl (hO4.grow ((Grow.refl _).alloc _ _)) rfl (Row.builtAt (S:=fun _=>True) 1 (by simp) (by unfold maxLen;omega) rfl fun _=>trivial) (by simp[Value.oneCell']) (by omega) (by unfold maxLen;omega) ?_;intro a3 c3 w5 hA3);have hGz:=(Grow.refl w4).alloc #[.string d.name,Yv Yi d.op, .string d.a, .string d.b,Yv Yi d.value.rows,Yv Yi d.value.cols, .slice am d.value.cells.length cm] 30;have hS5:=SepD.app ((hI4.grow hGz).weak fun b hb hF hne=>⟨⟨hF.1,hb⟩,hne⟩) hlS hokS (fun g hg=>⟨(hlo4 g hg).1,Nat.lt_of_lt_of_le (hlo4 g hg).2 hGz.size⟩) (om4.grow hGz) hv.rng hok hFr (by have:=hGz.size;omega) hA3;rw[←hset] at hS5;have hGW:Grow w w5:=hA3.grow (hG04.alloc _ _) (fun g hg=>(hlo4 g hg).1);clear hO4 hI4 hset hA3;go_wp2_with fail;refine (ZaV _ _ _ l _ (h.grow hGW) hn hcl).mono ?_;rintro e w6 ⟨rfl,hG6⟩;cases hs:Zp l with
    |false=>
     have HN:=hid (Zba (l:=l) (d:=d) (by rw[hs];rfl));have H5:=hid hs;clear hs;have hsz:=(hGW.trans hG6).size;go_wp2
     go_ret2
     exact ⟨_,by rw[HN.out];rfl,⟨_,_,_,rfl,by rw[HN.out];exact SepD.nilAt rfl rfl ⟨hsz,by simp⟩⟩,(hGW.trans hG6).alloc _ _⟩
    |true=>
     have hl12:=Zfm hs;have HS:=hid hs;clear hs;go_wp2_with fail;refine (ZaV _ _ _ (Zn l d) _ ((hS5.grow hG6).rdD (S:=fun _=>True) fun _ _=>trivial) (by omega) hclS).mono ?_;rintro e w7 ⟨rfl,hG7⟩;have hGz:=(hGW.trans hG6).trans hG7;have hsz:=hGz.size;cases hs5:Zp (Zn l d) with
     |false=>
      have HN:=hid (Zba (l:=l) (d:=d) (by rw[hs5];simp));have H5:=hid hs5;clear hs5;go_wp2
      go_ret2
      exact ⟨_,by rw[HN.out];rfl,⟨_,_,_,rfl,by rw[HN.out];exact SepD.nilAt rfl rfl ⟨hsz,by simp⟩⟩,hGz.alloc _ _⟩
     |true=>
      have HY:=hid (ZbI HS.out hs5);have H5:=hid hs5;clear hs5;go_wp2
      go_ret2
      exact ⟨_,by rw[HY.out];rfl,⟨_,_,_,rfl,by rw[HY.out];exact ((hS5.grow hG6).grow hG7).weak fun b hb hF=>⟨hF.1,hb⟩⟩,hGz⟩

end Go.Proofs.YtgeoehnbpkediaaGreat
