/- The laws' helpers on []Result: comparing. -/
import Derived.Test.YtgeoehnbpkediaaGreatZAddS
import Derived.Test.YtgeoehnbpkediaaGreatZDeps
set_option maxHeartbeats 8000000
set_option maxRecDepth 100000
namespace Go.Proofs.YtgeoehnbpkediaaGreat
open Go.RowKit
open Lib (hid)
open Go.Value renaming int->Yv
open Go.IntKind renaming i64->Yi
variable {F S T:Nat->Prop} {P:Program} {b j:Nat} {l:List Rs} {r:Rs} {s u v:Value} {ty:TypeId} {w w':World}
def VRR (w:World) (S:Nat->Prop) (v:Value) (l:List Rs):Prop:= ∃ a n c,v= .slice a n c/\RdR w S a n c l
def ORR (w:World) (F:Nat->Prop) (v:Value) (l:List Rs):Prop:= ∃ a n c,v= .slice a n c/\SepR w F a n c l
theorem VRR.keep (h:VRR w S v l) (hk:Keep T w w') (hST: ∀ b,b<w.heap.size->S b->T b):VRR w' S v l:=by
 obtain ⟨a,n,c,rfl,h⟩:=h;exact ⟨a,n,c,rfl,h.keep hk hST⟩
theorem VRR.grow (h:VRR w S v l) (hk:Grow w w'):VRR w' S v l:=h.keep hk fun _ _ _=>trivial
theorem VRR.weak (h:VRR w S v l) (hST: ∀ b,b<w.heap.size->S b->T b):VRR w T v l:=by
 obtain ⟨a,n,c,rfl,⟨ss,h0,h1,h2⟩,h3,h4⟩:=h;exact ⟨a,n,c,rfl,⟨ss,h0,h1.weak hST,h2.weak hST⟩,h3,h4⟩
theorem ORR.keep (h:ORR w F v l) (hk:Keep T w w') (hT: ∀ b,b<w.heap.size->F b->T b):ORR w' F v l:=by
 obtain ⟨a,n,c,rfl,h⟩:=h;exact ⟨a,n,c,rfl,h.keep hk hT⟩
theorem ORR.grow (h:ORR w F v l) (hk:Grow w w'):ORR w' F v l:=h.keep hk fun _ _ _=>trivial
theorem ORR.weak {G:Nat->Prop} (h:ORR w F v l) (hF: ∀ b,b<w.heap.size->F b->G b):ORR w G v l:=by
 obtain ⟨a,n,c,rfl,h⟩:=h;exact ⟨a,n,c,rfl,h.weak hF⟩
theorem ORR.rd (h:ORR w F v l) (hS: ∀ b,F b->S b):VRR w S v l:=by
 obtain ⟨a,n,c,rfl,h⟩:=h;exact ⟨a,n,c,rfl,h.rdR hS⟩
theorem Zhx (l r:List Rs):ZaA (l++r)=ZaA l++ZaA r:=by simp[ZaA]
theorem RdR.cap_le {a:Option Addr} {n cap:Nat} (h:RdR w S a n cap l):n<=maxLen:=by
 obtain ⟨⟨ss,_,h1,_⟩,_⟩:=h;exact Nat.le_trans h1.le h1.max
def Zpm (l:List Rs):Prop:=l.length<=1048576/\ ∀ r∈l,(rsM r).cells.length<=2097152
theorem StT.load4 (h:StT P ty 4) {o:Nat} (hd:RAt w b o r s):(loadVar ty ⟨b,o,none⟩).run P w= .ok (.agg (ZaF r s).toArray) w:=by
 obtain ⟨fs,hu,hi⟩:=h;obtain ⟨i,hi',hs⟩:=Option.map_eq_some_iff.1 hi;have hg:(isAgg ty).run P w= .ok true w:=by simp[isAgg,run_underlying hu]
 have hsz:(sizeOf ty).run P w= .ok 4 w:=by simp[sizeOf,typeInfo,hi',hs]
 obtain ⟨d0,d1,d2,d3⟩:=hd;have hl:=run_loadCells_list (P:=P) (w:=w) ⟨b,o,none⟩ (ZaF r s) (fun j x hj=>by
  match j,hj with
  |0,hj=>simp[ZaF] at hj;subst hj;simpa [Addr.add] using d0
  |1,hj=>simp[ZaF] at hj;subst hj;simpa [Addr.add] using d1
  |2,hj=>simp[ZaF] at hj;subst hj;simpa [Addr.add] using d2
  |3,hj=>simp[ZaF] at hj;subst hj;simpa [Addr.add] using d3
  |j+4,hj=>simp[ZaF] at hj)
 simp only[show (ZaF r s).length=4 from rfl] at hl;simp[loadVar,hg,hsz,hl]
theorem Zes {C:World->Prop} {o:Oper} {a:Act} {K:Act->Prop} {x:Operand} (hty:StT P ty 4) (ho:o.op= .load ty x) (hx:a.eval x= .pointer (some ⟨b,j,none⟩))
  (hv: ∀ w',C w'->RAt w' b j r s) (hk:K (a.put o.dst (.agg #[Yv Yi (rsM r).rows,Yv Yi (rsM r).cols,s, .bool r.isSome]))):o.quiet P a C K:=by
 refine ⟨.agg (ZaF r s).toArray,fun w hw=> ?_,hk⟩;have h:=hty.load4 (hv w hw);unfold Oper.quietAt execOp;simp[ho,hx,Instr.loadAt,Instr.sureAddr,h,Oper.quietUpon]
theorem Zr1 (h:VRs w S u r) (h':VRs w T v r) (hb:(rsM r).cells.length<=2097152):Calls Tryz.prog 46 #[u,v] w fun e w'=>e= .returned (.bool true)/\Grow w w':=by
 obtain ⟨a,c,rfl,h,ho⟩:=h;obtain ⟨a',c',rfl,h',_⟩:=h';obtain ⟨o1,o2⟩:=ho;generalize rsM r=m at *;obtain ⟨f,hf⟩: ∃ f,f=r.isSome:=⟨_,rfl⟩;rw[←hf];clear hf;have e2:(f !=f)=false:=by simp
 have hG0:Grow w ((w.alloc (.cells #[Yv Yi m.rows,Yv Yi m.cols, .slice a m.cells.length c, .bool f] 39)).alloc (.cells #[Yv Yi m.rows,Yv Yi m.cols, .slice a' m.cells.length c', .bool f] 39)):=((Grow.refl w).alloc _ _).alloc _ _;have B1:Blk ((w.alloc (.cells #[Yv Yi m.rows,Yv Yi m.cols, .slice a m.cells.length c, .bool f] 39)).alloc (.cells #[Yv Yi m.rows,Yv Yi m.cols, .slice a' m.cells.length c', .bool f] 39)) w.heap.size #[Yv Yi m.rows,Yv Yi m.cols, .slice a m.cells.length c, .bool f] 39:=(Blk.new _ _ _).alloc _;have B2:Blk ((w.alloc (.cells #[Yv Yi m.rows,Yv Yi m.cols, .slice a m.cells.length c, .bool f] 39)).alloc (.cells #[Yv Yi m.rows,Yv Yi m.cols, .slice a' m.cells.length c', .bool f] 39)) (w.heap.size+1) #[Yv Yi m.rows,Yv Yi m.cols, .slice a' m.cells.length c', .bool f] 39:=Blk.newAt _ _ _ (by simp);have hvm:VM _ S (.agg #[Yv Yi m.rows,Yv Yi m.cols, .slice a m.cells.length c]) m:=⟨a,_,c,rfl,h.grow hG0,o1,o2⟩;have hvm':VM _ T (.agg #[Yv Yi m.rows,Yv Yi m.cols, .slice a' m.cells.length c']) m:=⟨a',_,c',rfl,h'.grow hG0,o1,o2⟩;go_enter Tryz.func46,Tryz.ntmps46;go_wp2_with fail;refine (Zrk hvm hvm' (by unfold bdM;omega)).mono ?_;rintro e w1 ⟨rfl,hG1⟩;obtain ⟨⟨-, -, -,p3⟩, -⟩:=(B1.grow hG1).four';obtain ⟨⟨-, -, -,q3⟩, -⟩:=(B2.grow hG1).four';have p4:=(B1.grow hG1).lt;have q4:=(B2.grow hG1).lt;go_wp2;go_ret;exact ⟨rfl,hG0.trans hG1⟩
theorem ZkB (h:VRR w S u l) (h':VRR w T v l) (hb:Zpm l):Calls Tryz.prog 18 #[u,v] w fun e w'=>e= .returned (.bool true)/\Grow w w':=by
 obtain ⟨a,n,c,rfl,h⟩:=h;obtain ⟨a',n',c',rfl,h'⟩:=h';have hl:=h.len;have hl':=h'.len;have hnn:n=n':=by omega
 subst hnn;clear hl';obtain ⟨hb1,hb2⟩:=hb;have hn:n<=2097152:=by omega
 have Hb:=hid hb2;have Hl:=hid hl;clear hl hb2 hb1;go_enter Tryz.func18,Tryz.ntmps18;go_wp2;go_loopw [5] (fun i wr=>Grow w wr/\ ∃ k:Nat,k<=n/\i=Yv Yi k) (fun i _=>n-(intOf i).toNat);case atStart=>exact ⟨Grow.refl _,0,Nat.zero_le _,rfl⟩
 case round=>
  obtain ⟨hG,k,hk,rfl⟩:=hrel;by_cases hlt:k<n
  ·obtain ⟨b,off,r,a1,c1,rfl,hx,_,hbw,hd1,r1,ho⟩:=(h.grow hG).at hlt;obtain ⟨b',off',r',a1',c1',rfl,hx',_,hbw',hd1',r1',ho'⟩:=(h'.grow hG).at hlt;obtain rfl:r=r':=Option.some.inj (hx.symm.trans hx');have htot:=Hb.out r (List.mem_of_getElem? hx);clear hx hx';go_wp2;refine Zc (S:=Grow wr) [([0,1,2,3,4,5,6,7],some 8),([9],none)] Zj (by kernel_rfl) (fun _ _ _ _ _ h=>h) (Grow.refl _).drew ?_;show wpQuiet _ _ _ _ [_,_,_,_,_,_,_,_] _;(repeat (first |(go_big_quiet_want;(first |refine Zes Za2 rfl rfl (fun w' hG=>hd1.grow hG) ?_|refine Zes Za2 rfl rfl (fun w' hG=>hd1'.grow hG) ?_);go_big_quiet_on;simp only[putP])|go_big_quiet_step (exact fun _=>rfl)));refine wpQuiet_nil ?_;refine Ze rfl (fun K hK=> ?_);go_wp2_with fail;refine (Zr1 (r:=r) ⟨_,_,rfl,r1.grow (Grow.refl _).drew,ho⟩ ⟨_,_,rfl,r1'.grow (Grow.refl _).drew,ho⟩ htot).mono ?_;rintro e w1 ⟨rfl,hG1⟩;have hG2:Grow wr w1:=(Grow.refl wr).drew.trans hG1;go_wp2_with fail;refine hK _ _ (hG2) ?_;clear hK K;show wpQuiet _ _ _ _ [_] _;(try (conv=>arg 6;simp only[putP]));(repeat (first |(go_big_quiet_want;(first |refine Zes Za2 rfl rfl (fun w' hG=>hd1.grow hG) ?_|refine Zes Za2 rfl rfl (fun w' hG=>hd1'.grow hG) ?_);go_big_quiet_on;simp only[putP])|go_big_quiet_step (exact fun _=>rfl)));refine wpQuiet_nil ?_;refine Zh ?_;go_wp2;go_roundw;case rel=>exact ⟨hG.trans hG2,k+1,by omega,by go_num⟩
   case measure=>simp[intOf];omega
  ·go_wp2;go_ret;exact ⟨rfl,hG⟩
def Zen (r:Rs):Nat:=3+(rsM r).cells.length
def ZeZ (r:Rs) (k:Nat):Rs:=⟨⟨(k:Int),(k:Int)+1,Zb3 (rsM r).cells.length (k+2)⟩,(((k:Int)+2+((rsM r).cells.length:Int))%3==0)⟩
def ZcA:List Rs->Nat->List Rs
 |[],_=>[]
 |r::l,k=>ZeZ r k::ZcA l (k+Zen r)
def ZaB (l:List Rs):Nat:=(l.map Zen).sum
@[simp] theorem ZpH: ∀ (l:List Rs) (k:Nat),(ZcA l k).length=l.length
 |[],_=>rfl
 |r::l,k=>by simp[ZcA,ZpH l]
@[simp] theorem ZrP:ZaB []=0:=rfl
@[simp] theorem ZdW (r:Rs) (l:List Rs):ZaB (r::l)=Zen r+ZaB l:=by simp[ZaB]
theorem Zhr (l r:List Rs):ZaB (l++r)=ZaB l+ZaB r:=by simp[ZaB]
theorem ZiG (h:l[j]? =some r):ZaB (l.take (j+1))=ZaB (l.take j)+Zen r:=by rw[ZC h,Zhr];simp
theorem Zi8: ∀ {l:List Rs} {k j:Nat} {r:Rs},l[j]? =some r->(ZcA l k)[j]? =some (ZeZ r (k+ZaB (l.take j)))
 |[],k,j,r,h=>by simp at h
 |r'::l,k,0,r,h=>by simp at h;subst h;simp[ZcA]
 |r'::l,k,j+1,r,h=>by simp only[List.getElem?_cons_succ] at h;simp only[ZcA,List.getElem?_cons_succ,Zi8 (l:=l) (k:=k+Zen r') h,List.take_succ_cons,ZdW,Nat.add_assoc]
theorem ZiN (l:List Rs) (j:Nat):ZaB (l.take j)<=ZaB l:=by
 conv=>rhs;rw[←List.take_append_drop j l]
 rw[Zhr];omega
theorem Zkg (l:List Rs):l.length<=ZaB l:=by
 induction l with
 |nil=>simp
 |cons r l ih=>simp only[ZdW,List.length_cons];unfold Zen;omega
theorem ZpZ {B:Nat} (h: ∀ r∈l,(rsM r).cells.length<=B):ZaB l<=l.length*(3+B):=by
 induction l with
 |nil=>simp
 |cons r l ih=>have h1:=ih fun x hx=>h x (List.mem_cons_of_mem _ hx);have h2:=h r List.mem_cons_self;rw[ZdW,List.length_cons,Nat.succ_mul];unfold Zen;omega
theorem Znh {ss:List Value} {r':Rs} (hl:ss.length=l.length) (hd:l[j]? =some r) (hs:ss[j]? =some s):
  (((ZaQ l ss).set (j*4) (Yv Yi (rsM r').rows)).set (j*4+1) (Yv Yi (rsM r').cols)).set (j*4+3) (.bool r'.isSome)=ZaQ (l.set j r') ss:=by
 have hj:j<l.length:=(List.getElem?_eq_some_iff.1 hd).1;have h1:=Zfc (r:=r') (s:=s) hl hj;rw[Zgw hs] at h1;rw[←h1];congr 1;refine (Zgw ?_).symm;rw[List.getElem?_set_ne (by omega),List.getElem?_set_ne (by omega),Zcq hd hs (by omega)];rfl
theorem Zou (l:List Rs) (j:Nat) (r:Rs):ZaA (l.set j r)=(ZaA l).set j (rsM r).cells:=by unfold ZaA;rw[List.map_set]
theorem Zrd (r:Rs) {k:Nat} (hk:k<=4294967200):ROk (ZeZ r k):=by
 unfold ROk ZeZ rsM I64;simp only;omega
theorem Zmu: ∀ (l:List Rs) {k:Nat},k+ZaB l<=4294967000-> ∀ r∈ZcA l k,ROk r
 |[],_,_,r,hr=>by simp[ZcA] at hr
 |r'::l,k,hk,r,hr=>by
  simp only[ZdW] at hk;simp only[ZcA,List.mem_cons] at hr;rcases hr with rfl|hr
  ·exact Zrd _ (by omega)
  ·exact Zmu l (by omega) r hr
theorem ZmO (k:Nat) (h:ORR w F v l) (hb:0<k/\ZaB l+k<=4294967000):Calls Tryz.prog 21 #[v,Yv Yi k] w fun e w'=>
  e= .returned (Yv Yi ((k+ZaB l:Nat):Int))/\ORR w' F v (ZcA l k)/\Keep (fun g=> ¬ F g) w w':=by
 obtain ⟨a,n,cap,rfl,h⟩:=h;have hl:=h.len;obtain ⟨hk,hb⟩:=hb;have hcl:=Zkg l;obtain ⟨⟨ss,hO,hI⟩,_,hok,hlo⟩:=h;have hss:ss.length=l.length:=by have:=hI.len;simpa using this
 have hn:n<=4294967000:=by omega
 have Hl:=hid hl;clear hl;have Hss:=hid hss;clear hss;go_enter Tryz.func21,Tryz.ntmps21;go_wp2;go_loopw [1,5] (fun q i wr=> ∃ j:Nat,j<=n/\i=Yv Yi j/\q=Yv Yi ((k+ZaB (l.take j):Nat):Int)/\Own wr 39 4 a n cap (ZaQ ((ZcA l k).take j++l.drop j) ss)/\Inner wr F (blk a) ss (ZaA ((ZcA l k).take j++l.drop j))/\Keep (fun g=> ¬ F g) w wr) (fun _ i _=>n-(intOf i).toNat);case atStart=>exact ⟨0,Nat.zero_le _,rfl,rfl,by simpa using hO,by simpa using hI,Keep.refl _ _⟩
 case round=>
  clear hO hI;obtain ⟨j,hj,rfl,rfl,hO,hI,hK⟩:=hrel;by_cases hlt:j<n
  ·cases a with
   |none=>have:=hO.nil rfl;have:=hO.le;omega
   |some p=>
    have hp:=(hO.block p rfl).1;obtain ⟨pb,po,ps⟩:=p;simp only[Addr.mk.injEq,true_and] at hp;obtain ⟨rfl,rfl⟩:=hp;obtain ⟨r,hx⟩: ∃ r,l[j]? =some r:=⟨_,List.getElem?_eq_getElem (by rw[Hl.out];exact hlt)⟩;have hcur:((ZcA l k).take j++l.drop j)[j]? =some r:=ZhH (by simp;have:=Hl.out;omega) hx;have hcs:=ZiG hx;have hct:=ZiN l (j+1);have hset:=ZgI (Zi8 (k:=k) hx) hx;obtain ⟨am,cm,hv,hOm,hrm,hFm⟩:=hI.each j _ (Zcf hcur);have hlenL:((ZcA l k).take j++l.drop j).length=l.length:=(by simp;have:=Hl.out;omega);have hthree:=Znh (r':=ZeZ r (k+ZaB (l.take j))) (by rw[hlenL,Hss.out]) hcur hv;have hs2:=Zcq (j:=2) hcur hv (by omega);have hC0:(ZaQ ((ZcA l k).take j++l.drop j) ss).length=l.length*4:=(by rw[Ze6 (by rw[hlenL,Hss.out]),hlenL]);have hdv:=Zou ((ZcA l k).take j++l.drop j) j (ZeZ r (k+ZaB (l.take j)));rw[hset] at hthree hdv;have hcd:Zen r=3+(rsM r).cells.length:=rfl;generalize hkk:k+ZaB (l.take j)=kk at *;have hkb:kk+3+(rsM r).cells.length<=4294967000:=(by omega);have hk0:0<kk:=(by omega);have Hcur:=hid (Zcf hcur);have Hv:=hid hv;clear hv hcur hset;generalize hC:ZaQ ((ZcA l k).take j++l.drop j) ss=C at *;generalize hV:ZaA ((ZcA l k).take j++l.drop j)=V at *;clear hC hV hlenL hcl;have hjl:j*4+4<=C.length:=(by rw[hC0,Hl.out];omega);have H3:=hid hthree;have Hdv:=hid hdv;have Hs2:=hid hs2;have Hcs:=hid hcs;have Hx:=hid hx;have Hkk:=hid hkk;clear hthree hdv hs2 hcs hx hkk hC0;obtain ⟨m,hm⟩: ∃ m,m=(rsM r).cells.length:=⟨_,rfl⟩;rw[←hm] at hOm hkb hcd;have Hm:=hid hm;obtain ⟨c0,e0⟩:=hO.has (j:=j*4) (by omega);obtain ⟨c1,e1⟩:=hO.has (j:=j*4+1) (by omega);have e2:=hO.cell (j:=j*4+2) (c:= .slice am m cm) (by rw[Hs2.out,hm];rfl);clear hm;have f0:=hO.free (j*4);have f1:=hO.free (j*4+1);simp only at e0 e1 e2 f0 f1;have hO2:=(hO.set (j*4) (Yv Yi (kk:Int))).set (j*4+1) (Yv Yi ((kk:Int)+1));have hoth: ∀ q,blk am=some q->q≠pb:=fun q hq e=>(hFm q hq).2 (by rw[e];rfl);have hK2:Keep (fun g=>g≠pb) wr _:=(((Keep.refl _ wr).setCell (p:=⟨pb,j*4,none⟩) (fun _ e=>e rfl) (Yv Yi (kk:Int))).setCell (p:=⟨pb,j*4+1,none⟩) (fun _ e=>e rfl) (Yv Yi ((kk:Int)+1)));have hOm2:=hOm.keep hK2 (fun q hq _=>hoth q hq);have hI2:=hI.keep hK2 (fun b _ _ hne e=>hne (by rw[e];rfl));go_wp2_with fail;refine (Zgy _ _ _ (kk+2) (rsM r).cells _ hOm2 (by omega)).mono ?_;rintro e w5 ⟨rfl,o5,hK5⟩;rw[Hm.out] at o5 hcd;have Hv':=hid (show ss[j]? =some (Value.slice am (rsM r).cells.length cm) from Hv.out);have hI5:=hI2.put Hv.out Hcur.out (by simp) o5 (Zhp (by rw[Hm.out] at hkb;omega)) hK5;have hO5:=hO2.keep hK5 (fun g hg _ e=>by
     have:=hoth g e;simp at hg;omega)
    obtain ⟨c3,e3⟩:=hO5.has (j:=j*4+3) (by simp only[List.length_set];omega);have f3:=hO5.free (j*4+3);simp only at e3 f3;have hpF:F pb:=hlo pb rfl;clear e0 e1 e2 f0 f1;go_wp2;go_roundw;case rel=>
     have hfine:(((kk:Int)+2+(m:Int))%3==0)=(ZeZ r kk).isSome:=(by rw[Hm.out];rfl);have hO6:=hO5.set (j*4+3) (.bool (ZeZ r kk).isSome);have hK6:Keep (fun g=>g≠pb) w5 _:=(Keep.refl _ w5).setCell (p:=⟨pb,j*4+3,none⟩) (fun _ e=>e rfl) (.bool (ZeZ r kk).isSome);have hI6:=hI5.keep hK6 (fun b _ _ hne e=>hne (by rw[e];rfl));rw[hfine];refine ⟨j+1,by omega,by go_num, ?_, ?_, ?_, ?_⟩
     ·rw[Hcs.out];have:=Hkk.out;have:=Hm.out;rw[hcd];congr 1;omega
     ·rw[←H3.out];exact hO6
     ·rw[Hdv.out];exact hI6
     ·refine ((hK.trans (hK2.mono fun q _ hq e=>hq (by rw[e];exact hpF))).trans (hK5.mono fun q _ hq e=>hq (hFm q e).1)).trans (hK6.mono fun q _ hq e=>hq (by rw[e];exact hpF))
    case measure=>simp[intOf];omega
  ·go_wp2;go_ret;have:j=n:=(by omega);subst this;refine ⟨Zz (by rw[ZI Hl.out]),⟨_,_,_,rfl,⟨⟨ss, ?_, ?_⟩,by simp[Hl.out],Zmu l (by omega),hlo⟩⟩,hK⟩
   ·have hd:l.drop j=[]:=(by rw[←Hl.out];simp);rw[hd,List.append_nil,ZI (by simp[Hl.out])] at hO;exact hO
   ·have hd:l.drop j=[]:=(by rw[←Hl.out];simp);rw[hd,List.append_nil,ZI (by simp[Hl.out])] at hI;exact hI
theorem ZmK (k:Nat) (h:VRR w S v (ZcA l k)) (hb:0<k/\ZaB l+k<=4294967000):Calls Tryz.prog 22 #[v,Yv Yi k] w fun e w'=>
  e= .returned (Yv Yi ((k+ZaB l:Nat):Int))/\Grow w w':=by
 obtain ⟨a,n,c,rfl,h⟩:=h;have hl:l.length=n:=by simpa using h.len
 obtain ⟨hk,hb⟩:=hb;have hcl:=Zkg l;have hn:n<=4294967000:=by omega
 have Hl:=hid hl;clear hl;go_enter Tryz.func22,Tryz.ntmps22;go_wp2;go_loopw [1,5] (fun q i wr=>Grow w wr/\ ∃ j:Nat,j<=n/\i=Yv Yi j/\q=Yv Yi ((k+ZaB (l.take j):Nat):Int)) (fun _ i _=>n-(intOf i).toNat);case atStart=>exact ⟨Grow.refl _,0,Nat.zero_le _,rfl,rfl⟩
 case round=>
  obtain ⟨hG,j,hj,rfl,rfl⟩:=hrel;by_cases hlt:j<n
  ·obtain ⟨r,hx⟩: ∃ r,l[j]? =some r:=⟨_,List.getElem?_eq_getElem (by rw[Hl.out];exact hlt)⟩;obtain ⟨b,off,r',a1,c1,rfl,hx',_,hbw,hd1,r1,ho⟩:=(h.grow hG).at hlt;rw[Zi8 hx] at hx';have hcs:=ZiG hx;have hct:=ZiN l (j+1);have hcd:Zen r=3+(rsM r).cells.length:=rfl;obtain rfl:=Option.some.inj hx';generalize hkk:k+ZaB (l.take j)=kk at *;have hkb:kk+3+(rsM r).cells.length<=4294967000:=(by omega);have hk0:0<kk:=(by omega);have Hcs:=hid hcs;have Hkk:=hid hkk;clear hcs hkk hx hx' hct hcl ho;obtain ⟨g0,g1,g2,g3⟩:=hd1;obtain ⟨m,hm⟩: ∃ m,m=(rsM r).cells.length:=⟨_,rfl⟩;have g0':wr.cell? ⟨b,off+j*4,none⟩=some (Yv Yi (kk:Int)):=g0;have g1':wr.cell? ⟨b,off+j*4+1,none⟩=some (Yv Yi ((kk:Int)+1)):=g1;have g2':wr.cell? ⟨b,off+j*4+2,none⟩=some (.slice a1 m c1):=(by rw[hm];simpa [ZeZ,rsM] using g2);have g3':wr.cell? ⟨b,off+j*4+3,none⟩=some (.bool (((kk:Int)+2+(m:Int))%3==0)):=(by rw[hm];exact g3);have r1':RdI wr S a1 m c1 (Zb3 m (kk+2)):=(by rw[hm];simpa [ZeZ,rsM] using r1);rw[←hm] at hcd hkb;clear g0 g1 g2 g3 r1 hm;have x0:((kk:Int)!=(kk:Int))=false:=(by simp);have x1:((kk:Int)+1!=(kk:Int)+1)=false:=(by simp);have x2:((((kk:Int)+2+(m:Int))%3==0)!=(((kk:Int)+2+(m:Int))%3==0))=false:=(by simp);go_wp2_with fail;refine (Zi6 _ m _ (kk+2) _ r1' (by omega)).mono ?_;rintro e w' ⟨rfl,rfl⟩;go_wp2;go_roundw;case rel=>refine ⟨hG,j+1,by omega,by go_num, ?_⟩;rw[Hcs.out];have:=Hkk.out;rw[hcd];congr 1;omega
   case measure=>simp[intOf];omega
  ·go_wp2;go_ret;have:j=n:=(by omega);subst this;exact ⟨Zz (by rw[ZI Hl.out]),hG⟩

end Go.Proofs.YtgeoehnbpkediaaGreat
