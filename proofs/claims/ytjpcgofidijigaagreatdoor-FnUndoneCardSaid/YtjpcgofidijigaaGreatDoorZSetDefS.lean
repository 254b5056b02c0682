/- SetDef: the reference's. -/
import Derived.Test.YtjpcgofidijigaaGreatDoorZMark
import Derived.Test.YtjpcgofidijigaaGreatDoorZDrawF
import Derived.Test.YtjpcgofidijigaaGreatDoorZFmtD
import Derived.Test.YtjpcgofidijigaaGreatDoorZFmtJ
set_option maxHeartbeats 8000000
set_option maxRecDepth 100000
namespace Go.Proofs.YtjpcgofidijigaaGreatDoor
open Go.RowKit
open Lib (hid)
open Go.Value renaming int->Yv
open Go.IntKind renaming i64->Yi
variable {S T:Nat->Prop} {a:Option Addr} {c n z:Nat} {d:Dfn} {l:List Dfn} {w:World}
theorem Zl3 (a:Option Addr) (n cap:Nat) (l:List Dfn) (dv:Value) (d:Dfn) (w:World) (h:RdD w S a n cap l) (hd:VD w T dv d) (hb:Zae l<=1048576) (hbd:bdD d<=1048576):
  Calls Tryz.prog 26 #[.slice a n cap,dv] w fun e w'=> ∃ r,e= .returned (.tuple #[r, .bool (ZbB l d).2])/\ODD w' (New w w') r (ZbB l d).1/\Grow w w':=by
 have Hl:=hid h.len;have hcl:=ZiX hb;have hn:n<=1048576:=by unfold Zae at hb;rw[←Hl.out];omega
 obtain ⟨av,nv,cv,rfl,hv,hok⟩:=hd;have hnv:d.value.cells.length=nv:=hv.len;subst hnv;have hcd:d.value.cells.length<=1048576:=by unfold bdD at hbd;omega
 obtain ⟨w0,hw0,hG0,hB0,hs0⟩:=al1 w #[.string d.name,Yv Yi d.op, .string d.a, .string d.b,Yv Yi d.value.rows,Yv Yi d.value.cols, .slice av d.value.cells.length cv] 36;have Hw0:=hid hw0;clear hw0;generalize hfn:ZD l d.name=fn at *;have hset:ZN l d=if 0<=fn then l.set fn.toNat d else l++[d]:=by unfold ZN;rw[hfn]
 have hfl:fn<l.length:=by rw[←hfn];exact Zih
 have hfl1: -1<=fn:=by rw[←hfn];exact (Zd8 _ l).1
 have Hfn:=hid hfn;clear hfn;go_enter Tryz.func26,Tryz.ntmps26;go_wp2;rw[←Hw0.out];go_loopw [6,7] (fun v i wr=>Grow w0 wr/\ ∃ (k c1:Nat) (a1:Option Addr),k<=n/\i=Yv Yi k/\v= .slice a1 k c1/\SepD wr (New w0 wr) a1 k c1 (l.take k)) (fun _ i _=>n-(intOf i).toNat);case atStart=>refine ⟨(Grow.refl w0).alloc _ _,0,0,_,Nat.zero_le _,rfl,rfl, ?_⟩;exact SepD.nilAt (by omega) rfl ⟨by omega,by simp;omega⟩
 case round=>
  obtain ⟨hG,k,c1,a1,hk,rfl,rfl,hS⟩:=hrel;by_cases hlt:k<n
  ·obtain ⟨b,off,x,ax,cx,rfl,hx,_,hbw,⟨e0,e1,e2,e3,e4,e5,e6⟩,r1,ho⟩:=(h.grow (hG0.trans hG)).at hlt;have htot:=(ZhR hx).2;have hcx:x.value.cells.length<=1048576:=(by unfold Zae at hb;unfold bdD at htot;omega);have Hx:=hid hx;clear hx htot;obtain ⟨wb,hwb,hGb,hBb,hsb⟩:=al1 wr #[.string x.name,Yv Yi x.op, .string x.a, .string x.b,Yv Yi x.value.rows,Yv Yi x.value.cols, .slice ax x.value.cells.length cx] 36;have Hwb:=hid hwb;clear hwb;have hvm:VM wb S (.agg #[Yv Yi x.value.rows,Yv Yi x.value.cols, .slice ax x.value.cells.length cx]) x.value:=⟨ax,_,cx,rfl,r1.grow hGb,ho.2.2.2.2.1,ho.2.2.2.2.2⟩;have p4:=hGb.cell e4;have p5:=hGb.cell e5;have p6:=hGb.cell e6;go_wp2_with fail;rw[←Hwb.out];refine (Zlw hvm hcx).mono ?_;rintro e w1 ⟨v',rfl,⟨am,nm,cm,rfl,om,xm,fm,hmr,hmc⟩,hG1⟩;have hnm:x.value.cells.length=nm:=(by simpa using om.len);subst hnm;have hB1:=hBb.grow hG1;obtain ⟨⟨y0,y1,y2,y3,y4,y5,y6⟩, -⟩:=hB1.seven;have f4:=hB1.free 4;have f5:=hB1.free 5;have f6:=hB1.free 6;have hK:Keep (fun q=>q≠wr.heap.size) w1 (((w1.setCell ⟨wr.heap.size,4,none⟩ (Yv Yi x.value.rows)).setCell ⟨wr.heap.size,5,none⟩ (Yv Yi x.value.cols)).setCell ⟨wr.heap.size,6,none⟩ (.slice am x.value.cells.length cm)):=
    (((Keep.refl _ w1).setCell (fun _ e=>e rfl) _).setCell (fun _ e=>e rfl) _).setCell (fun _ e=>e rfl) _
   have hGk:Grow wr (((w1.setCell ⟨wr.heap.size,4,none⟩ (Yv Yi x.value.rows)).setCell ⟨wr.heap.size,5,none⟩ (Yv Yi x.value.cols)).setCell ⟨wr.heap.size,6,none⟩ (.slice am x.value.cells.length cm)):=(hGb.trans hG1).keep hK fun q hq=>(by omega);have omk:=om.keep hK (fun g hg _ e=>by have:=(fm g hg).1;omega);have hfr: ∀ q,blk am=some q->wr.heap.size<=q:=fun q hq=>(by have:=(fm q hq).1;omega);have hsw:=hG.size;clear hG1 hGb hK om fm hB1 p4 p5 p6;obtain ⟨⟨ss,hO,hI⟩,hlS,hokS,hloS⟩:=hS;have hOk:=hO.grow hGk;go_wp2_with (at_builtin;refine Zx rfl (.tmp 28) (.tmp 30) _ rfl T_defs rfl (hOk.grow ((Grow.refl _).alloc _ _)) rfl (Row.builtAt (S:=fun _=>True) 1 (by simp) (by unfold maxLen;omega) rfl fun _=>trivial) (by simp[Value.oneCell']) (by omega) (by unfold maxLen;omega) ?_;intro a3 c3 w3 hA3);have hGz:=hGk.alloc #[.string x.name,Yv Yi x.op, .string x.a, .string x.b,Yv Yi x.value.rows,Yv Yi x.value.cols, .slice am x.value.cells.length cm] 36;have hS3:=SepD.app ((hI.grow hGz).weak fun b hb hF hne=>⟨⟨hF.1,hb⟩,hne⟩) hlS hokS (fun g hg=>⟨(hloS g hg).1,Nat.lt_of_lt_of_le (hloS g hg).2 hGz.size⟩) (omk.grow ((Grow.refl _).alloc _ _)) r1.rng ho (Fresh.mk' hI (fun g hg=>(hloS g hg).2) hsw hfr) (by have:=hGz.size;omega) hA3;have hG3:Grow w0 w3:=hA3.grow (hG.trans (hGk.alloc _ _)) (fun g hg=>(hloS g hg).1);rw[←ZH Hx.out] at hS3;clear hA3;go_wp2;go_roundw;case rel=>exact ⟨hG3,k+1,c3,a3,by omega,by go_num,rfl,hS3⟩
   case measure=>simp[intOf];omega
  ·have hk0:k=n:=(by omega);subst hk0;rw[Z7 Hl.out] at hS;generalize hww:wr=w2 at *;clear hww;have hS2:=hS;clear hS;have hG2:=hG;have hGa:=hG0.trans hG2;have hs2:=hG2.size;have hB2:=hB0.grow hG2;obtain ⟨⟨z0,z1,z2,z3,z4,z5,z6⟩, -⟩:=hB2.seven;have hvm:VM w2 T (.agg #[Yv Yi d.value.rows,Yv Yi d.value.cols, .slice av d.value.cells.length cv]) d.value:=⟨av,_,cv,rfl,hv.grow hGa,hok.2.2.2.2.1,hok.2.2.2.2.2⟩;go_wp2_with fail;refine (Zlw hvm hcd).mono ?_;rintro e w3 ⟨v',rfl,⟨am,nm,cm,rfl,om,xm,fm,hmr,hmc⟩,hG3⟩;have hnm:d.value.cells.length=nm:=(by simpa using om.len);subst hnm;have hs3:=hG3.size;have hB3:=hB2.grow hG3;obtain ⟨⟨y0,y1,y2,y3,y4,y5,y6⟩, -⟩:=hB3.seven;have f4:=hB3.free 4;have f5:=hB3.free 5;have f6:=hB3.free 6;have hK:Keep (fun q=>q≠w.heap.size) w3 (((w3.setCell ⟨w.heap.size,4,none⟩ (Yv Yi d.value.rows)).setCell ⟨w.heap.size,5,none⟩ (Yv Yi d.value.cols)).setCell ⟨w.heap.size,6,none⟩ (.slice am d.value.cells.length cm)):=
    (((Keep.refl _ w3).setCell (fun _ e=>e rfl) _).setCell (fun _ e=>e rfl) _).setCell (fun _ e=>e rfl) _
   have hGk:=(hGa.trans hG3).keep hK fun q hq=>(by omega);have omk:=om.keep hK (fun g hg _ e=>by have:=(fm g hg).1;omega);have hfr: ∀ q,blk am=some q->w2.heap.size<=q:=fun q hq=>(fm q hq).1;have hBk:=((hB3.set 4 (Yv Yi d.value.rows)).set 5 (Yv Yi d.value.cols)).set 6 (.slice am d.value.cells.length cm);simp only[List.setIfInBounds_toArray,List.set_cons_succ,List.set_cons_zero] at hBk;go_wp2_with fail;refine (Zeo _ _ _ l d.name _ (h.grow hGk) (by omega)).mono ?_;rintro e w4 ⟨rfl,hw4⟩;have hG4:Grow (((w3.setCell ⟨w.heap.size,4,none⟩ (Yv Yi d.value.rows)).setCell ⟨w.heap.size,5,none⟩ (Yv Yi d.value.cols)).setCell ⟨w.heap.size,6,none⟩ (.slice am d.value.cells.length cm)) w4:=(by rw[←hw4];exact Grow.refl _);clear hw4;rw[Hfn.out];have hKa:Keep (fun q=>q≠w.heap.size) w2 w4:=(hG3.mono fun _ _ _=>trivial).trans (hK.trans (hG4.mono fun _ _ _=>trivial));have hs4:=hKa.size;obtain ⟨⟨ss,hO,hI⟩,hlS,hokS,hloS⟩:=hS2;have hFr:Fresh w a1 am ss:=Fresh.mk' hI (fun g hg=>(hloS g hg).2) (by omega) hfr;have hO4:=hO.keep hKa (fun g hg _ e=>by have:=(hloS g hg).1;omega);have hI4:Inner w4 (New w w4) (blk a1) ss (Zay l):=(hI.keep hKa (fun b hb hF _ e=>by have:=hF.1;omega)).weak fun b hb hF hne=>⟨⟨by have:=hF.1;omega,hb⟩,hne⟩;have hlo4: ∀ g,blk a1=some g->New w w4 g:=fun g hg=>⟨by have:=(hloS g hg).1;omega,by have:=(hloS g hg).2;omega⟩;have om4:=omk.grow hG4;have hG04:=hGk.trans hG4;have hclS: ∀ x∈ZN l d,x.value.cells.length<=2097152:=fun x hx=>by
    rcases Zie hx with hx|rfl
    ·exact hcl x hx
    ·omega
   have hB4:=hBk.grow hG4;have hlb:=Hl.out;obtain ⟨⟨y0,y1,y2,y3,y4,y5,y6⟩, -⟩:=hB4.seven;clear hO hI hloS om hB3 hB2 f4 f5 f6 z0 z1 z2 z3 z4 z5 z6 hvm hK hKa omk hfr hBk hGk hG3 hG4 fm;by_cases hq:0<=fn
   ·obtain ⟨k,rfl⟩: ∃ k:Nat,fn=k:=⟨fn.toNat,by omega⟩;rw[if_pos hq] at hset;simp only[Int.toNat_natCast] at hset;have hkl:k<l.length:=(by omega);cases a1 with
    |none=>have:=hO4.nil rfl;have:=hO4.le;omega
    |some p=>
     have hp:=(hO4.block p rfl).1;obtain ⟨pb,po,ps⟩:=p;simp only[Addr.mk.injEq,true_and] at hp;obtain ⟨rfl,rfl⟩:=hp;have hlen:(Zat l ss).length=l.length*7:=Ziq (by have:=hI4.len;simpa using this);obtain ⟨c0,e0⟩:=hO4.has (j:=k*7) (by omega);obtain ⟨c1',e1⟩:=hO4.has (j:=k*7+1) (by omega);obtain ⟨c2,e2⟩:=hO4.has (j:=k*7+2) (by omega);obtain ⟨c3,e3⟩:=hO4.has (j:=k*7+3) (by omega);obtain ⟨c4,e4⟩:=hO4.has (j:=k*7+4) (by omega);obtain ⟨c5,e5⟩:=hO4.has (j:=k*7+5) (by omega);obtain ⟨c6,e6⟩:=hO4.has (j:=k*7+6) (by omega);have f0:=hO4.free (k*7);have f1:=hO4.free (k*7+1);have f2:=hO4.free (k*7+2);have f3:=hO4.free (k*7+3);have f4:=hO4.free (k*7+4);have f5:=hO4.free (k*7+5);have f6:=hO4.free (k*7+6);simp only at e0 e1 e2 e3 e4 e5 e6 f0 f1 f2 f3 f4 f5 f6;obtain ⟨hS5,hK5⟩:=SepD.put hO4 hI4 hlS hokS (hlo4 pb rfl) om4 hv.rng hok hFr hkl;rw[←hset] at hS5;have hGW:=hG04.keep hK5 fun q hq e=>(by have:=(hlo4 pb rfl).1;omega);have hW5:=hK5.size;clear hO4 hI4 hset;go_wp2_with fail;refine (Zc1 _ _ _ l _ (h.grow hGW) hn hcl).mono ?_;rintro e w6 ⟨rfl,hG6⟩;cases hs:ZV l with
     |false=>
      have HN:=hid (Zbo (l:=l) (d:=d) (by rw[hs];rfl));have H5:=hid hs;clear hs;have hsz:=(hGW.trans hG6).size;go_wp2
      go_ret2
      exact ⟨_,by rw[HN.out];rfl,⟨_,_,_,rfl,by rw[HN.out];exact SepD.nilAt rfl rfl ⟨hsz,by simp⟩⟩,(hGW.trans hG6).alloc _ _⟩
     |true=>
      have hl12:=ZhD hs;have HS:=hid hs;clear hs;go_wp2_with fail;refine (Zc1 _ _ _ (ZN l d) _ ((hS5.grow hG6).rdD (S:=fun _=>True) fun _ _=>trivial) (by omega) hclS).mono ?_;rintro e w7 ⟨rfl,hG7⟩;have hGz:=(hGW.trans hG6).trans hG7;have hsz:=hGz.size;cases hs5:ZV (ZN l d) with
      |false=>
       have HN:=hid (Zbo (l:=l) (d:=d) (by rw[hs5];simp));have H5:=hid hs5;clear hs5;go_wp2
       go_ret2
       exact ⟨_,by rw[HN.out];rfl,⟨_,_,_,rfl,by rw[HN.out];exact SepD.nilAt rfl rfl ⟨hsz,by simp⟩⟩,hGz.alloc _ _⟩
      |true=>
       have HY:=hid (ZcA HS.out hs5);have H5:=hid hs5;clear hs5;go_wp2
       go_ret2
       exact ⟨_,by rw[HY.out];rfl,⟨_,_,_,rfl,by rw[HY.out];exact ((hS5.grow hG6).grow hG7).weak fun b hb hF=>⟨hF.1,hb⟩⟩,hGz⟩
   ·rw[if_neg hq] at hset;go_wp2_with (at_builtin;refine Zx rfl (.tmp 46) (.tmp 48) _ rfl T_defs rfl (hO4.grow ((Grow.refl _).alloc _ _)) rfl (Row.builtAt (S:=fun _=>True) 1 (by simp) (by unfold maxLen;omega) rfl fun _=>trivial) (by simp[Value.oneCell']) (by omega) (by unfold maxLen;omega) ?_;intro a3 c3 w5 hA3);have hGz:=(Grow.refl w4).alloc #[.string d.name,Yv Yi d.op, .string d.a, .string d.b,Yv Yi d.value.rows,Yv Yi d.value.cols, .slice am d.value.cells.length cm] 36;have hS5:=SepD.app ((hI4.grow hGz).weak fun b hb hF hne=>⟨⟨hF.1,hb⟩,hne⟩) hlS hokS (fun g hg=>⟨(hlo4 g hg).1,Nat.lt_of_lt_of_le (hlo4 g hg).2 hGz.size⟩) (om4.grow hGz) hv.rng hok hFr (by have:=hGz.size;omega) hA3;rw[←hset] at hS5;have hGW:Grow w w5:=hA3.grow (hG04.alloc _ _) (fun g hg=>(hlo4 g hg).1);clear hO4 hI4 hset hA3;go_wp2_with fail;refine (Zc1 _ _ _ l _ (h.grow hGW) hn hcl).mono ?_;rintro e w6 ⟨rfl,hG6⟩;cases hs:ZV l with
    |false=>
     have HN:=hid (Zbo (l:=l) (d:=d) (by rw[hs];rfl));have H5:=hid hs;clear hs;have hsz:=(hGW.trans hG6).size;go_wp2
     go_ret2
     exact ⟨_,by rw[HN.out];rfl,⟨_,_,_,rfl,by rw[HN.out];exact SepD.nilAt rfl rfl ⟨hsz,by simp⟩⟩,(hGW.trans hG6).alloc _ _⟩
    |true=>
     have hl12:=ZhD hs;have HS:=hid hs;clear hs;go_wp2_with fail;refine (Zc1 _ _ _ (ZN l d) _ ((hS5.grow hG6).rdD (S:=fun _=>True) fun _ _=>trivial) (by omega) hclS).mono ?_;rintro e w7 ⟨rfl,hG7⟩;have hGz:=(hGW.trans hG6).trans hG7;have hsz:=hGz.size;cases hs5:ZV (ZN l d) with
     |false=>
      have HN:=hid (Zbo (l:=l) (d:=d) (by rw[hs5];simp));have H5:=hid hs5;clear hs5;go_wp2
      go_ret2
      exact ⟨_,by rw[HN.out];rfl,⟨_,_,_,rfl,by rw[HN.out];exact SepD.nilAt rfl rfl ⟨hsz,by simp⟩⟩,hGz.alloc _ _⟩
     |true=>
      have HY:=hid (ZcA HS.out hs5);have H5:=hid hs5;clear hs5;go_wp2
      go_ret2
      exact ⟨_,by rw[HY.out];rfl,⟨_,_,_,rfl,by rw[HY.out];exact ((hS5.grow hG6).grow hG7).weak fun b hb hF=>⟨hF.1,hb⟩⟩,hGz⟩
theorem ZlA (d:Dfn): ∀ (l:List Dfn) (i:Nat),ZbJ (l.set i d)<=ZbJ l+bdD d
 |[],_=>by simp
 |x::l,0=>by simp;omega
 |x::l,i+1=>by have:=ZlA d l i;simp;omega
theorem Zj4 (l:List Dfn) (d:Dfn):Zae (ZN l d)<=Zae l+bdD d+1:=by
 have h1:=ZmF l d;have h2:ZbJ (ZN l d)<=ZbJ l+bdD d:=by
  unfold ZN;split
  ·exact ZlA d l _
  ·rw[ZdW];simp
 unfold Zae;omega
theorem ZnW {wa w9:World} {c9 b off c1:Nat} {a1 a9:Option Addr} {ss:List Value} (hO:Own w 36 7 (some ⟨b,off,none⟩) n c (Zat l ss)) (hI:Inner w (fun q=>z<=q) (some b) ss (Zay l)) (hl:l.length=n) (hok: ∀ x∈l,DOk x) (hx:l[0]? =some d) (hz:z<=b) (hzs:z<=w.heap.size)
  (e6:w.cell? ⟨b,off+6,none⟩=some (.slice a1 d.value.cells.length c1)) (hG:Grow w wa) (hA:Apped wa w9 36 7 (some ⟨b,off,none⟩) a9 (n+1) c9 (Zat l ss++Zaa d (.slice a1 d.value.cells.length c1))):RdD w9 (fun q=>z<=q) a9 (n+1) c9 (l++[d]):=by
 have hss:ss.length=l.length:=by have:=hI.len;simpa using this
 have hza:z<=wa.heap.size:=Nat.le_trans hzs hG.size;obtain ⟨b',c',hs0,o0,r0,f0⟩:=hI.each 0 d.value.cells (Zl4 hx);have h6:(Zat l ss)[6]? =some (.slice b' d.value.cells.length c'):=by have:=ZhI (j:=6) hx hs0 (by omega);simpa [Zaa] using this
 obtain ⟨b2,off2,ha, -,hc⟩:=(hO.row (S:=fun _=>True) fun _ _=>trivial).addr (by intro e;rw[e] at h6;simp at h6);simp only[Option.some.injEq,Addr.mk.injEq] at ha;obtain ⟨rfl,rfl, -⟩:=ha;have e7:=hc 6 _ h6;rw[e6] at e7;have e8:=Option.some.inj e7;simp only[Value.slice.injEq] at e8;obtain ⟨rfl, -,rfl⟩:=e8;have hl3:=hA.lo (B:=z) hza (fun g hg=>by simp at hg;omega);refine ⟨⟨ss++[.slice a1 d.value.cells.length c1],by simp[hss], ?_, ?_⟩,by simp[hl],fun x hx'=> ?_⟩
 ·rw[Zfv hss,Zma];exact hA.own.row fun g hg=>hl3 g hg
 ·rw[Zg5];intro i xs hi;have hlen:ss.length=(Zay l).length:=by rw[hss];simp
  by_cases hlt:i<ss.length
  ·rw[List.getElem?_append_left (by omega)] at hi;obtain ⟨b3,c3,h3,o3,r3,f3⟩:=hI.each i xs hi;refine ⟨b3,c3,by rw[List.getElem?_append_left hlt];exact h3, ?_⟩;exact (((o3.grow hG).keep hA.keep fun q hq _=>by simp;exact fun e=>(f3 q hq).2 (by rw[e])).rdI (S:=fun q=>z<=q) (fun q hq=>(f3 q hq).1) r3)
  ·rw[List.getElem?_append_right (by omega)] at hi;have hi0:i-(Zay l).length=0:=(by have:=(List.getElem?_eq_some_iff.1 hi).1;simp at this;omega);rw[hi0] at hi;have hi1:xs=d.value.cells:=(by simpa [Zay] using hi.symm);subst hi1;refine ⟨a1,c1,by rw[List.getElem?_append_right (by omega),hlen,hi0];rfl, ?_⟩;exact (((o0.grow hG).keep hA.keep fun q hq _=>by simp;exact fun e=>(f0 q hq).2 (by rw[e])).rdI (S:=fun q=>z<=q) (fun q hq=>(f0 q hq).1) r0)
 ·rcases List.mem_append.1 hx' with hx'|hx'
  ·exact hok x hx'
  ·rw[List.mem_singleton] at hx';subst hx';exact hok x (List.mem_of_getElem? hx)
theorem Keep.low {w1 w2:World} (h:Keep S w w1) (k:Keep T w1 w2) (hT: ∀ q,q<w.heap.size->S q->T q):Keep S w w2:=by
 have h1:=(h.mono (T:=fun q=>S q/\q<w.heap.size) fun q _ hq=>hq.1).trans (k.mono (T:=fun q=>S q/\q<w.heap.size) fun q _ hq=>hT q hq.2 hq.1);exact h1.mono fun q hlt hq=>⟨hq,hlt⟩
theorem ZiQ (g:Nat) (w:World) (h:Cur w g):
  Calls Tryz.prog 9 #[.pointer (some ⟨g,0,none⟩)] w fun e w'=> ∃ a n c l,e= .returned (.slice a n c)/\RdD w' (fun q=>w.heap.size<=q) a n c l/\Zae l<=1000/\Cur w' g/\Keep (fun q=>q≠g) w w':=by
 have hlt:=h.lt;go_enter Tryz.func9,Tryz.ntmps9;go_wp2_with fail;refine (ZaK g 6 _ (h.grow ((Grow.refl _).alloc _ _)) (by omega)).mono ?_;rintro e w1 ⟨x,hx,rfl,hC1,hK1⟩;have hx6:x<=5:=by omega
 clear hx;have hE:=SepD.nilAt (w:=w) (F:=fun q=>w.heap.size<=q) (cs:= #[]) rfl rfl (Nat.le_refl _);have hE1:=hE.keep hK1 (fun q _ hq=>by omega);have hKw:=(((Grow.refl w).alloc #[] 36).mono (T:=fun q=>q≠g) fun _ _ _=>trivial).trans hK1;clear hE;go_wp2_with fail;go_loopw [3,4] (fun v i wr=> ∃ (k n c:Nat) (a:Option Addr) (l:List Dfn),i=Yv Yi k/\v= .slice a n c/\k<=5/\Zae l+11*k<=55/\SepD wr (fun q=>w.heap.size<=q) a n c l/\Cur wr g/\Keep (fun q=>q≠g) w wr) (fun _ i _=>(intOf i).toNat);case atStart=>exact ⟨x,0,0,_,[],rfl,rfl,hx6,by simp[Zae];omega,hE1,hC1,hKw⟩
 case round=>
  obtain ⟨k,n,c,a,l,rfl,rfl,hk5,hbd,hS,hC,hK⟩:=hrel;have hlw:=hK.size;by_cases hk:0<k
  ·go_wp2_with fail;refine (Zmd g _ hC).mono ?_;rintro e w2 ⟨dv,d,rfl,hOD,hbdD,hC2,hK2⟩;have hS2:=hS.keep hK2 (fun q _ hq=>by omega);go_wp2_with fail;refine (Zl3 (S:=fun _=>True) (T:=fun _=>True) a n c l dv d w2 (hS2.rdD fun _ _=>trivial) (hOD.rd fun _ _=>trivial) (by omega) (by omega)).mono ?_;rintro e w3 ⟨r,rfl,⟨a3,n3,c3,rfl,hO3⟩,hG3⟩;have hK3:=(hK.trans hK2).trans (hG3.any.mono fun _ _ _=>trivial);have hC3:=hC2.grow hG3;have hs3:=(hK.trans hK2).size;cases hb:ZV l&&ZV (ZN l d) with
   |false=>
    rw[Zbo hb] at hO3;rw[Zbo hb];have hS3:=hS2.grow hG3;clear hO3 hb;go_wp2_with fail;go_roundw;case rel=>exact ⟨k-1,n,c,a,l,by go_num,rfl,by omega,by omega,hS3,hC3,hK3⟩
    case measure=>simp[intOf];omega
   |true=>
    obtain ⟨b1,b2⟩:=(Bool.and_eq_true _ _▸hb:ZV l=true/\ZV (ZN l d)=true);rw[ZcA b1 b2] at hO3;rw[ZcA b1 b2];have hS3:=hO3.weak (G:=fun q=>w.heap.size<=q) fun q _ hq=>Nat.le_trans hs3 hq.1;have hbl:=Zj4 l d;clear hO3 hb b1 b2;generalize ZN l d=l' at *;go_wp2_with fail;go_roundw;case rel=>exact ⟨k-1,n3,c3,a3,l',by go_num,rfl,by omega,by omega,hS3,hC3,hK3⟩
    case measure=>simp[intOf];omega
  ·have hrd:=hS.rdD (S:=fun q=>w.heap.size<=q) fun _ h=>h;by_cases hn0:0<n
   ·go_wp2_with fail;refine (Zc8 g 20 _ hC (by omega)).mono ?_;rintro e w4 ⟨b,rfl,hC4,hK4⟩;have hK04:=hK.trans hK4;have hrd4:=hrd.keep hK4 (fun q _ hq=>by omega);cases b with
    |false=>go_wp2_with fail;go_ret;exact ⟨a,n,c,l,rfl,hrd4,by omega,hC4,hK04⟩
    |true=>have hS4:=hS.keep hK4 (fun q _ hq=>by omega);obtain ⟨b,off,d,a1,c1,rfl,hx,_,hbw,⟨e0,e1,e2,e3,e4,e5,e6⟩,r1,ho⟩:=hrd4.at hn0;simp only[Nat.zero_mul,Nat.add_zero] at e0 e1 e2 e3 e4 e5 e6;have hnl:n<=55:=(by have:=hS4.len;unfold Zae at hbd;omega);obtain ⟨⟨ss,hO,hI⟩,hlS,hokS,hloS⟩:=hS4;have hloS':=hloS b rfl;clear hrd hrd4 hS hC hK4 hE1 hC1 hKw hK1;go_wp2_with (at_builtin;refine Zx rfl (.tmp 30) (.tmp 34) _ rfl T_defs rfl (hO.grow ((Grow.refl _).alloc _ _)) rfl (Row.builtAt (S:=fun _=>True) 1 rfl (by unfold maxLen;omega) rfl fun _=>trivial) (by simp[Value.oneCell']) (by omega) (by unfold maxLen;omega) ?_;intro a9 c9 w9 hA9);go_ret;have hGa:=(Grow.refl w4).alloc #[.string d.name,Yv Yi d.op, .string d.a, .string d.b,Yv Yi d.value.rows,Yv Yi d.value.cols, .slice a1 d.value.cells.length c1] 36;have hbx:=(ZhR hx).2;exact ⟨a9,n+1,c9,rfl,l++[d],ZnW hO hI hlS hokS hx hloS' hK04.size e6 hGa hA9,by unfold Zae at *;rw[ZdW];simp at *;omega,(hC4.grow hGa).keep hA9.keep (fun q hq e=>by simp at e;omega),((hK04.trans (hGa.any.mono fun _ _ _=>trivial)).low hA9.keep fun q hq _ e=>by simp at e;omega)⟩
   ·obtain rfl:n=0:=(by omega);go_wp2_with fail;go_ret;exact ⟨a,0,c,l,rfl,hrd,by omega,hC,hK⟩
theorem Zpt (s:List UInt8):(headD s).length<=s.length:=by unfold headD;exact (List.takeWhile_sublist _).length_le
theorem Zrk (s:List UInt8):bdD (Zby s)<=s.length+576:=by
 cases h:ZaQ s with
 |none=>rw[(Zea h).1];unfold bdD Ze3;have h0:(⟨#[]⟩:ByteArray).size=0:=rfl;simp only[List.length_nil];omega
 |some d=>
  rw[(Zjc h).1];obtain ⟨hd,hf,hs,hc⟩:=Zpo h;cases hp:ZaD (Zav s) with
  |some m=>unfold Zbz at hc;rw[hp] at hc;simp only at hc;subst hc;obtain ⟨R,C,hR,hC,hR24,hC24,hln, -⟩:=Zn (Zcu.1 hp).1;have:R*C<=24*24:=Nat.mul_le_mul hR24 hC24;have h1:=Zpt s;have h2:=ZG (headD s);unfold bdD;simp only;have h0:(⟨#[]⟩:ByteArray).size=0:=rfl;omega
  |none=>
   have hw:=Zjg hs (hc▸hf) hp;unfold Zbz at hc;rw[hp] at hc;simp only at hc;have hd':=hd;rw[←hc] at hf hd';unfold ZaU at hf;rw[if_pos hd'] at hf;simp only at hf;rw[if_neg hw.1] at hf;have hl:(headD s++32::(opw (ZaZ ((Zad s).getD 0 []) 9)++32::((Zad s).getD 1 []++if (Zb ((Zad s).getD 2 [])).toList.isEmpty=true then [] else 32::(Zad s).getD 2 []))).length=s.length:=congrArg List.length hf;simp only[List.length_append,List.length_cons] at hl;rw[←hc];unfold bdD;simp only;have h1:=ZG (headD s);have h2:=ZG ((Zad s).getD 1 []);have h3:=ZG ((Zad s).getD 2 []);have h4:((Zad s).getD 2 []).length<=(if (Zb ((Zad s).getD 2 [])).toList.isEmpty=true then ([]:List UInt8) else 32::(Zad s).getD 2 []).length:=by
    split
    ·rename_i he;rw[ZnZ] at he;simp at he;simp[he]
    ·simp
   have h7:zeroP.cells.length=0:=rfl;omega
theorem Zn3 (l:List Dfn) (d:Dfn):Zae (ZbB l d).1<=Zae l+bdD d+1:=by
 unfold ZbB;split
 ·exact Zj4 l d
 ·simp[Zae]
theorem Zl1 (h:d∈l):bdD d<=ZbJ l:=by
 induction l with
 |nil=>cases h
 |cons x r ih=>
  rw[ZoY];rcases List.mem_cons.1 h with rfl|h
  ·omega
  ·have:=ih h;omega
theorem Zh9 {p:UInt8->Bool}: ∀ {l cur x:List UInt8},Zp p cur l=[x]->x=cur++l
 |[],cur,x,h=>by simp[Zp] at h;simp[h]
 |c::r,cur,x,h=>by
  unfold Zp at h;split at h
  ·have h1:=(List.cons.inj h).2;have h2:=(Zb5 p r []).2;rw[h1] at h2;simp at h2
  ·have:=Zh9 h;simpa using this
def Zcf:List UInt8:=[117,110,100,111]
theorem Zlc {L:List UInt8}:L=Zcf↔Zp sp [] L=[Zcf]:=by
 constructor
 ·rintro rfl;decide
 ·intro h;have:=Zh9 h;simpa using this.symm
def okS:ByteArray:=⟨#[111,107]⟩
def Zs4 (L:List UInt8) (D:List Dfn) (P:List (List Dfn)) (D':List Dfn) (P':List (List Dfn)) (s:ByteArray):Prop:=
 (s≠okS/\D'=D/\P'=P/\(L=Zcf->P=[]))\/(s=okS/\L=Zcf/\P=P'++[D'])\/(s=okS/\L≠Zcf/\P'=P++[D]/\Zae D'<=Zae D+L.length+577)
def RsOwn (w:World) (a:Option Addr) (n c:Nat) (m:Mat):Prop:=Own w 3 1 a n c (ints m.cells)/\(∀ x∈m.cells,I64 x)/\I64 m.rows/\I64 m.cols/\m.cells.length<=1048576
theorem RsOwn.grow {w':World} {m:Mat} (h:RsOwn w a n c m) (hG:Grow w w'):RsOwn w' a n c m:=⟨h.1.grow hG,h.2⟩
def RsPost (B:Nat):Nat->Value->World->Prop
 |4,v,w=> ∃ a n c, ∃ m:Mat, ∃ ok,v= .tuple #[.agg #[Yv Yi m.rows,Yv Yi m.cols, .slice a n c], .bool ok]/\RsOwn w a n c m
 |5,v,w=> ∃ a n c, ∃ m:Mat, ∃ ok,v= .tuple #[.agg #[Yv Yi m.rows,Yv Yi m.cols, .slice a n c], .bool ok]/\RsOwn w a n c m
 |6,v,w=> ∃ a n c, ∃ m:Mat,v= .agg #[Yv Yi m.rows,Yv Yi m.cols, .slice a n c]/\RsOwn w a n c m
 |7,v,_=> ∃ ok,v= .bool ok
 |8,v,w=> ∃ g,v= .pointer (some ⟨g,0,none⟩)/\B<=g/\Blk w g #[Yv Yi 0,Yv Yi 0, .slice none 0 0] 34
 |_,_,_=>True
theorem RsPost.stays: ∀ i v w w',Grow w w'->RsPost z i v w->RsPost z i v w':=fun i v w w' hG h=>by
 unfold RsPost at *;split at h
 ·obtain ⟨a,n,c,m,ok,e,h1⟩:=h;exact ⟨a,n,c,m,ok,e,h1.grow hG⟩
 ·obtain ⟨a,n,c,m,ok,e,h1⟩:=h;exact ⟨a,n,c,m,ok,e,h1.grow hG⟩
 ·obtain ⟨a,n,c,m,e,h1⟩:=h;exact ⟨a,n,c,m,e,h1.grow hG⟩
 ·exact h
 ·obtain ⟨g,h1,h2,h3⟩:=h;exact ⟨g,h1,h2,h3.grow hG⟩
 ·trivial
theorem RdS.subS {cap:Nat} {l:List ByteArray} (h:RdS w S a n cap l) {k:Nat} (hk:k<=n):RdS w S (ZcQ a cap k 1) (n-k) (cap-k) (l.drop k):=by
 have h1:=h.row.sub (l:=k) (k:=n) hk (Nat.le_refl _);have h2:=h.len;refine ⟨?_,by simp;omega⟩;have e:((strs l).drop (k*1)).take ((n-k)*1)=strs (l.drop k):=by unfold strs;rw[Nat.mul_one,Nat.mul_one, ←List.map_drop,List.take_of_length_le (by simp;omega)]
 rw[←e];exact h1

end Go.Proofs.YtjpcgofidijigaaGreatDoor
