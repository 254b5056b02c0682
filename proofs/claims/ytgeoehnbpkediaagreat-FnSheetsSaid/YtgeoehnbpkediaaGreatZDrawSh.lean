/- l36Sheet: a sheet drawn out of the input's bytes. -/
import Derived.Test.YtgeoehnbpkediaaGreatZDrawF
import Derived.Test.YtgeoehnbpkediaaGreatZSetDefS
import Derived.Test.YtgeoehnbpkediaaGreatZEvR
set_option maxHeartbeats 8000000
set_option maxRecDepth 100000
namespace Go.Proofs.YtgeoehnbpkediaaGreat
open Go.RowKit
open Lib (hid)
variable {S T:Nat->Prop} {l:List Dfn} {n:Nat} {w:World}
theorem Zk9 (d:Dfn): ∀ (l:List Dfn) (i:Nat),ZcD (l.set i d)<=ZcD l+bdD d
 |[],_=>by simp
 |x::l,0=>by simp;omega
 |x::l,i+1=>by have:=Zk9 d l i;simp;omega
theorem Zm8 (l:List Dfn) (d:Dfn):ZbQ (Zn l d)<=ZbQ l+bdD d+1:=by
 have h1:=Zlq l d;have h2:ZcD (Zn l d)<=ZcD l+bdD d:=by
  unfold Zn;split
  ·exact Zk9 d l _
  ·rw[Zel];simp
 unfold ZbQ;omega
theorem Zmq {wa w9:World} {z c c9 b off c1:Nat} {a1 a9:Option Addr} {d:Dfn} {ss:List Value} (hO:Own w 30 7 (some ⟨b,off,none⟩) n c (ZaO l ss)) (hI:Inner w (fun q=>z<=q) (some b) ss (ZaY l)) (hl:l.length=n) (hok: ∀ x∈l,DOk x) (hx:l[0]? =some d) (hz:z<=b) (hzs:z<=w.heap.size)
  (e6:w.cell? ⟨b,off+6,none⟩=some (.slice a1 d.value.cells.length c1)) (hG:Grow w wa) (hA:Apped wa w9 30 7 (some ⟨b,off,none⟩) a9 (n+1) c9 (ZaO l ss++Zan d (.slice a1 d.value.cells.length c1))):RdD w9 (fun q=>z<=q) a9 (n+1) c9 (l++[d]):=by
 have hss:ss.length=l.length:=by have:=hI.len;simpa using this
 have hza:z<=wa.heap.size:=Nat.le_trans hzs hG.size;obtain ⟨b',c',hs0,o0,r0,f0⟩:=hI.each 0 d.value.cells (Zkg hx);have h6:(ZaO l ss)[6]? =some (.slice b' d.value.cells.length c'):=by have:=Zhx (j:=6) hx hs0 (by omega);simpa [Zan] using this
 obtain ⟨b2,off2,ha, -,hc⟩:=(hO.row (S:=fun _=>True) fun _ _=>trivial).addr (by intro e;rw[e] at h6;simp at h6);simp only[Option.some.injEq,Addr.mk.injEq] at ha;obtain ⟨rfl,rfl, -⟩:=ha;have e7:=hc 6 _ h6;rw[e6] at e7;have e8:=Option.some.inj e7;simp only[Value.slice.injEq] at e8;obtain ⟨rfl, -,rfl⟩:=e8;have hl3:=hA.lo (B:=z) hza (fun g hg=>by simp at hg;omega);refine ⟨⟨ss++[.slice a1 d.value.cells.length c1],by simp[hss], ?_, ?_⟩,by simp[hl],fun x hx'=> ?_⟩
 ·rw[Zfz hss,Zkr];exact hA.own.row fun g hg=>hl3 g hg
 ·rw[Zhh];intro i xs hi;have hlen:ss.length=(ZaY l).length:=by rw[hss];simp
  by_cases hlt:i<ss.length
  ·rw[List.getElem?_append_left (by omega)] at hi;obtain ⟨b3,c3,h3,o3,r3,f3⟩:=hI.each i xs hi;refine ⟨b3,c3,by rw[List.getElem?_append_left hlt];exact h3, ?_⟩;exact (((o3.grow hG).keep hA.keep fun q hq _=>by simp;exact fun e=>(f3 q hq).2 (by rw[e])).rdI (S:=fun q=>z<=q) (fun q hq=>(f3 q hq).1) r3)
  ·rw[List.getElem?_append_right (by omega)] at hi;have hi0:i-(ZaY l).length=0:=(by have:=(List.getElem?_eq_some_iff.1 hi).1;simp at this;omega);rw[hi0] at hi;have hi1:xs=d.value.cells:=(by simpa [ZaY] using hi.symm);subst hi1;refine ⟨a1,c1,by rw[List.getElem?_append_right (by omega),hlen,hi0];rfl, ?_⟩;exact (((o0.grow hG).keep hA.keep fun q hq _=>by simp;exact fun e=>(f0 q hq).2 (by rw[e])).rdI (S:=fun q=>z<=q) (fun q hq=>(f0 q hq).1) r0)
 ·rcases List.mem_append.1 hx' with hx'|hx'
  ·exact hok x hx'
  ·rw[List.mem_singleton] at hx';subst hx';exact hok x (List.mem_of_getElem? hx)
theorem Keep.low {w1 w2:World} (h:Keep S w w1) (k:Keep T w1 w2) (hT: ∀ q,q<w.heap.size->S q->T q):Keep S w w2:=by
 have h1:=(h.mono (T:=fun q=>S q/\q<w.heap.size) fun q _ hq=>hq.1).trans (k.mono (T:=fun q=>S q/\q<w.heap.size) fun q _ hq=>hT q hq.2 hq.1);exact h1.mono fun q hlt hq=>⟨hq,hlt⟩
theorem Zme (g:Nat) (w:World) (h:Cur w g):
  Calls Tryz.prog 31 #[.pointer (some ⟨g,0,none⟩)] w fun e w'=> ∃ a n c l,e= .returned (.slice a n c)/\RdD w' (fun q=>w.heap.size<=q) a n c l/\ZbQ l<=1000/\Cur w' g/\Keep (fun q=>q≠g) w w':=by
 have hlt:=h.lt;go_enter Tryz.func31,Tryz.ntmps31;go_wp2_with fail;refine (Zcu g 6 _ (h.grow ((Grow.refl _).alloc _ _)) (by omega)).mono ?_;rintro e w1 ⟨x,hx,rfl,hC1,hK1⟩;have hx6:x<=5:=by omega
 clear hx;have hE:=SepD.nilAt (w:=w) (F:=fun q=>w.heap.size<=q) (cs:= #[]) rfl rfl (Nat.le_refl _);have hE1:=hE.keep hK1 (fun q _ hq=>by omega);have hKw:=(((Grow.refl w).alloc #[] 30).mono (T:=fun q=>q≠g) fun _ _ _=>trivial).trans hK1;clear hE;go_wp2_with fail;go_loopw [3,4] (fun v i wr=> ∃ (k n c:Nat) (a:Option Addr) (l:List Dfn),i= .int .i64 k/\v= .slice a n c/\k<=5/\ZbQ l+11*k<=55/\SepD wr (fun q=>w.heap.size<=q) a n c l/\Cur wr g/\Keep (fun q=>q≠g) w wr) (fun _ i _=>(intOf i).toNat);case atStart=>exact ⟨x,0,0,_,[],rfl,rfl,hx6,by simp[ZbQ];omega,hE1,hC1,hKw⟩
 case round=>
  obtain ⟨k,n,c,a,l,rfl,rfl,hk5,hbd,hS,hC,hK⟩:=hrel;have hlw:=hK.size;by_cases hk:0<k
  ·go_wp2_with fail;refine (Zkm g _ hC).mono ?_;rintro e w2 ⟨dv,d,rfl,hOD,hbdD,hC2,hK2⟩;have hS2:=hS.keep hK2 (fun q _ hq=>by omega);go_wp2_with fail;refine (Zg8 (S:=fun _=>True) (T:=fun _=>True) a n c l dv d w2 (hS2.rdD fun _ _=>trivial) (hOD.rd fun _ _=>trivial) (by omega) (by omega)).mono ?_;rintro e w3 ⟨r,rfl,⟨a3,n3,c3,rfl,hO3⟩,hG3⟩;have hK3:=(hK.trans hK2).trans (hG3.any.mono fun _ _ _=>trivial);have hC3:=hC2.grow hG3;have hs3:=(hK.trans hK2).size;cases hb:Zp l&&Zp (Zn l d) with
   |false=>
    rw[Zba hb] at hO3;rw[Zba hb];have hS3:=hS2.grow hG3;clear hO3 hb;go_wp2_with fail;go_roundw;case rel=>exact ⟨k-1,n,c,a,l,by go_num,rfl,by omega,by omega,hS3,hC3,hK3⟩
    case measure=>simp[intOf];omega
   |true=>
    obtain ⟨b1,b2⟩:=(Bool.and_eq_true _ _▸hb:Zp l=true/\Zp (Zn l d)=true);rw[ZbI b1 b2] at hO3;rw[ZbI b1 b2];have hS3:=hO3.weak (G:=fun q=>w.heap.size<=q) fun q _ hq=>Nat.le_trans hs3 hq.1;have hbl:=Zm8 l d;clear hO3 hb b1 b2;generalize Zn l d=l' at *;go_wp2_with fail;go_roundw;case rel=>exact ⟨k-1,n3,c3,a3,l',by go_num,rfl,by omega,by omega,hS3,hC3,hK3⟩
    case measure=>simp[intOf];omega
  ·have hrd:=hS.rdD (S:=fun q=>w.heap.size<=q) fun _ h=>h;by_cases hn0:0<n
   ·go_wp2_with fail;refine (Zeb g 20 _ hC (by omega)).mono ?_;rintro e w4 ⟨b,rfl,hC4,hK4⟩;have hK04:=hK.trans hK4;have hrd4:=hrd.keep hK4 (fun q _ hq=>by omega);cases b with
    |false=>go_wp2_with fail;go_ret;exact ⟨a,n,c,l,rfl,hrd4,by omega,hC4,hK04⟩
    |true=>have hS4:=hS.keep hK4 (fun q _ hq=>by omega);obtain ⟨b,off,d,a1,c1,rfl,hx,_,hbw,⟨e0,e1,e2,e3,e4,e5,e6⟩,r1,ho⟩:=hrd4.at hn0;simp only[Nat.zero_mul,Nat.add_zero] at e0 e1 e2 e3 e4 e5 e6;have hnl:n<=55:=(by have:=hS4.len;unfold ZbQ at hbd;omega);obtain ⟨⟨ss,hO,hI⟩,hlS,hokS,hloS⟩:=hS4;have hloS':=hloS b rfl;clear hrd hrd4 hS hC hK4 hE1 hC1 hKw hK1;go_wp2_with (at_builtin;refine ZS rfl (.tmp 30) (.tmp 34) _ rfl T_defs rfl (hO.grow ((Grow.refl _).alloc _ _)) rfl (Row.builtAt (S:=fun _=>True) 1 rfl (by unfold maxLen;omega) rfl fun _=>trivial) (by simp[Value.oneCell']) (by omega) (by unfold maxLen;omega) ?_;intro a9 c9 w9 hA9);go_ret;have hGa:=(Grow.refl w4).alloc #[.string d.name, .int .i64 d.op, .string d.a, .string d.b, .int .i64 d.value.rows, .int .i64 d.value.cols, .slice a1 d.value.cells.length c1] 30;have hbx:=(ZfL hx).2;exact ⟨a9,n+1,c9,rfl,l++[d],Zmq hO hI hlS hokS hx hloS' hK04.size e6 hGa hA9,by unfold ZbQ at *;rw[Zel];simp at *;omega,(hC4.grow hGa).keep hA9.keep (fun q hq e=>by simp at e;omega),((hK04.trans (hGa.any.mono fun _ _ _=>trivial)).low hA9.keep fun q hq _ e=>by simp at e;omega)⟩
   ·obtain rfl:n=0:=(by omega);go_wp2_with fail;go_ret;exact ⟨a,0,c,l,rfl,hrd,by omega,hC,hK⟩
theorem Zlc (m:Mat):Zb3 m m=true:=by
 have hI: ∀ l:List Int,Zgg l l=true:=by
  intro l;induction l with
  |nil=>rfl
  |cons a l _=>unfold Zgg;simp
 unfold Zb3;rw[hI];simp
structure ZqN (w:World) (z:Nat) (a:Option Addr) (n cap:Nat) (l:List Dfn):Prop where
 own: ∃ ss,ss.length=l.length/\Own w 30 7 a n cap (ZaO l ss)/\RdCells w (fun q=>q<z) ss (ZaY l)
 len:l.length=n
 ok: ∀ d∈l,DOk d
 lo: ∀ g,blk a=some g->z<=g
theorem RdR.weak {a:Option Addr} {cap:Nat} {l:List Rs} (h:RdR w S a n cap l) (hST: ∀ b,b<w.heap.size->S b->T b):RdR w T a n cap l:=by
 obtain ⟨⟨ss,h0,h1,h2⟩,hl,ho⟩:=h;exact ⟨⟨ss,h0,h1.weak hST,h2.weak hST⟩,hl,ho⟩
theorem Zow (h:Zp l=true):(ZX l).length=l.length:=by
 unfold ZX;rw[if_pos h];simp[rsL]
theorem ZmJ (h:ZbQ l<=1000):l.length<=1000/\ ∀ d∈l,d.value.cells.length<=1000:=by
 have:=Zgl (l:=l);refine ⟨by unfold ZbQ at h;omega,fun d hd=> ?_⟩;obtain ⟨k,hk,rfl⟩:=List.getElem_of_mem hd;have h1:=(ZfL (List.getElem?_eq_getElem hk)).2;unfold ZbQ at h;unfold bdD at h1;omega
theorem ZjE {P:Program} {fn:Func} {R:Ending->World->Prop} {a:Act} {ty:TypeId} {cs:Array Value} {u v p:Tmp} {g:Nat} {t:TypeId} (hT:StT P ty cs.size) (h:fn.results= #[.tmp u, .tmp v, .cell p ty]) (hd:a.defers=[]) (hp:a.tmps.getD p undef= .pointer (some ⟨g,0,none⟩))
  (hb:Blk w g cs t) (hR:R (.returned (.tuple #[a.tmps.getD u undef,a.tmps.getD v undef, .agg cs])) w):bodyPost P fn R .ret a w:=by
 have hp':a.tmps[p]?.getD undef= .pointer (some ⟨g,0,none⟩):=by simpa using hp
 refine bodyPost_ret (v:= .tuple #[a.tmps.getD u undef,a.tmps.getD v undef, .agg cs]) ?_ hd hR;simp[results,h,hp',asAddr,hT.load hb]
theorem ZhA (a:Option Addr) (n cap:Nat) (bs:List Int) (w:World) (h:RdB w S a n cap bs) (hn:n<=1048576):
  Calls Tryz.prog 7 #[.slice a n cap] w fun e w'=> ∃ la m lc l ra rc dv d,e= .returned (.tuple #[.slice la m lc, .slice ra (ZX l).length rc,dv])/\RdD w' (fun _=>True) la m lc l/\RdR w' (fun _=>True) ra (ZX l).length rc (ZX l)/\VD w' (fun _=>True) dv d/\ZbQ l<=1000/\bdD d<=10/\(∀ r∈ZX l,(rsM r).cells.length<=1048576)/\Grow w w':=by
 have hG0:=(Grow.refl w).alloc ZjH 30;have bZ:=Blk.new w ZjH 30;go_enter Tryz.func7,Tryz.ntmps7;go_wp2_with fail;refine (Zpk _ _ _ bs _ (h.grow hG0) (by omega)).mono ?_;rintro e w1 ⟨g,hg,rfl,hC1,hG1⟩;have hg':w.heap.size+1<=g:=by simpa using hg
 have bZ1:=bZ.grow hG1;have hgl:=hC1.lt;go_wp2_with fail;refine (Zme g _ hC1).mono ?_;rintro e w2 ⟨la,ln,lc,l,rfl,hR,hb,hC2,hK2⟩;have bZ2:=bZ1.keep hK2 (by omega);have hs2:=hK2.size;have hG2:=(hG0.trans hG1).keep hK2 (fun q hq e=>by omega);obtain ⟨hm,hcl⟩:=ZmJ hb;have hln:=hR.len;have Hcl:=hid hcl;have Hb:=hid hb;clear hcl hb;go_wp2_with fail;refine (ZpO hR (by omega) (fun d hd=>by have:=Hcl.out d hd;omega)).mono ?_;rintro e w3 ⟨ra,rc,rfl,hRR,hG3,hEb⟩;have HEb:=hid hEb;clear hEb;go_wp2_with fail;refine (Zkm g _ (hC2.grow hG3)).mono ?_;rintro e w4 ⟨dv,d,rfl,⟨va,vn,vc,rfl,oV,xV,fV,oD⟩,hbD,hC4,hK4⟩;have bZ4:=(bZ2.grow hG3).keep hK4 (by omega);have hs3:=hG3.size;have hR4:=(hR.grow hG3).keep hK4 fun q _ hS e=>by omega
 have hRR4:=hRR.keep hK4 fun q _ hS e=>by omega
 have hG4:=(hG2.trans hG3).keep hK4 (fun q hq e=>by omega);have hs4:=hK4.size;have HO:=hid oD;obtain ⟨⟨z0,z1,z2,z3,z4,z5,z6⟩,zf0⟩:=bZ4.seven;have zf1:=bZ4.free 1;have zf2:=bZ4.free 2;have zf3:=bZ4.free 3;have zf4:=bZ4.free 4;have zf5:=bZ4.free 5;have zf6:=bZ4.free 6;have hltZ:=bZ4.lt;clear hC4 hK4 hRR hR hG3 hC2 hK2 hC1 hG1 bZ bZ1 bZ2 hG0 hG2 oD hg;go_wp2;have hKs:Keep (fun q=>q≠w.heap.size) w4 (((((((w4.setCell ⟨w.heap.size,0,none⟩ (.string d.name)).setCell ⟨w.heap.size,1,none⟩ (.int .i64 d.op)).setCell ⟨w.heap.size,2,none⟩ (.string d.a)).setCell ⟨w.heap.size,3,none⟩ (.string d.b)).setCell ⟨w.heap.size,4,none⟩ (.int .i64 d.value.rows)).setCell ⟨w.heap.size,5,none⟩ (.int .i64 d.value.cols)).setCell ⟨w.heap.size,6,none⟩ (.slice va vn vc)):=
  (((((((Keep.refl _ w4).setCell (fun _ e=>e rfl) _).setCell (fun _ e=>e rfl) _).setCell (fun _ e=>e rfl) _).setCell (fun _ e=>e rfl) _).setCell (fun _ e=>e rfl) _).setCell (fun _ e=>e rfl) _).setCell (fun _ e=>e rfl) _
 have hlo: ∀ q,w1.heap.size<=q->q≠w.heap.size:=fun q hq e=>by omega
 exact ZjE Zao rfl rfl rfl (((((((bZ4.set 0 _).set 1 _).set 2 _).set 3 _).set 4 _).set 5 _).set 6 _) ⟨la,ln,lc,l,ra,rc,_,d,rfl,(hR4.keep hKs fun q _ hq=>hlo q hq).weak fun _ _ _=>trivial,(hRR4.keep hKs fun q _ hq=>hlo q (by omega)).weak fun _ _ _=>trivial,⟨va,vn,vc,rfl,(oV.keep hKs (fun q hq _=>hlo q (by have:=fV q hq;omega))).rdI (fun _ _=>trivial) xV,HO.out⟩,Hb.out,hbD,fun r hr=>(HEb.out r hr).2,hG4.keep hKs fun q hq=>by omega⟩

end Go.Proofs.YtgeoehnbpkediaaGreat
