/- Leading minors, forms and whether they are definite: the program's functions. -/
import Derived.Test.YtgeoehnbpkediaaGreatZDetI
set_option maxHeartbeats 8000000
set_option maxRecDepth 100000
namespace Go.Proofs.YtgeoehnbpkediaaGreat
open Go.RowKit
open Lib (hid)
variable {n:Nat} {w:World}
theorem Zlo {m:List Int} {K R R' t:Nat} (hl:m.length=R*K) (hn:n<=K) (ht:t<R') (hR:R'<=R):
  splice (ints (ZbS m K n t++List.replicate ((R'-t)*n) 0)) (t*n) (ints ((Zbe m K t).take n))=ints (ZbS m K n (t+1)++List.replicate ((R'-(t+1))*n) 0):=by
 have h1:=Zgv hl hn (show t<=R by omega);have h2:((Zbe m K t).take n).length=n:=by rw[List.length_take,Zd8 hl (by omega)];omega
 have h3:(R'-t)*n=n+(R'-(t+1))*n:=by rw[show R'-t=(R'-(t+1))+1 by omega,Nat.add_mul];omega
 unfold splice;rw[Zjq];simp only[ints,List.map_append,List.length_map,h2];rw[List.take_append_of_le_length (by simp[h1]),List.take_of_length_le (by simp[h1]),List.drop_append,List.drop_eq_nil_of_le (by simp[h1]),List.append_assoc,List.nil_append];simp only[List.length_map,h1,List.map_replicate,List.drop_replicate];congr 3;rw[h3];omega
theorem OI.mt {F:Nat->Prop} {g:Nat} (hg:g=w.heap.size) (hF:F g):OI (w.alloc (.cells #[] 3)) F (.slice (some ⟨g,0,none⟩) 0 0) []:=
 ⟨_,_,_,rfl,Own.freshAt (cs:= #[]) hg (by unfold maxLen;omega) rfl,fun x hx=>(by cases hx),fun q hq=>by simp at hq;subst hq;exact hF⟩
def ZdP (m:Mat):Bool:=Zad m&&(ZaW m.cells m.rows.toNat m.rows.toNat).isSome
def ldL (m:Mat):List Int:=if Zad m=true then (ZaW m.cells m.rows.toNat m.rows.toNat).getD [] else []
theorem ZgS {g:List Int} {n:Nat}: ∀ {k:Nat} {l:List Int},ZaW g n k=some l->l.length=k/\ ∀ x∈l, -400000000<=x/\x<=400000000
 |0,l,h=>by rw[←Option.some.inj (show some []=some l from h)];exact ⟨rfl,fun x hx=>by cases hx⟩
 |k+1,l,h=>by
  simp only[ZaW] at h;cases h1:ZaW g n k with
  |none=>rw[h1] at h;cases h
  |some l0=>
   rw[h1,Option.bind_some] at h;cases h2:Zak (k+1) (ZbS g n (k+1) (k+1)) with
   |none=>rw[h2] at h;cases h
   |some d=>
    rw[h2,Option.map_some] at h;obtain ⟨e1,e2⟩:=ZgS h1;rw[←Option.some.inj h];refine ⟨by simp[e1],fun x hx=> ?_⟩;rcases List.mem_append.1 hx with hx|hx
    ·exact e2 x hx
    ·rw[List.mem_singleton.1 hx];exact Zcy h2
theorem Zk6 {g:List Int} {k j:Nat} (h:ZaW g n k=none) (hj:k<=j):ZaW g n j=none:=by
 induction j with
 |zero=>
  obtain rfl:k=0:=by omega
  exact h
 |succ j ih=>
  by_cases e:k=j+1
  ·subst e;exact h
  ·simp only[ZaW];rw[ih (by omega)];rfl
theorem ZpS {S:Nat->Prop} {v:Value} {m:Mat} (h:VM w S v m) (hb:bdM m<=1048576):
  Calls Tryz.prog 162 #[v] w fun e w'=> ∃ x,e= .returned (.tuple #[x, .bool (ZdP m)])/\OI w' (New w w') x (ldL m)/\Grow w w':=by
 have hV:=h;obtain ⟨a,n,cp,rfl,h,ir,ic⟩:=h;have hG1:=(Grow.refl w).alloc #[.int .i64 m.rows, .int .i64 m.cols, .slice a n cp] 28;have bM:=Blk.new w #[.int .i64 m.rows, .int .i64 m.cols, .slice a n cp] 28;have hsA:(w.alloc (.cells #[.int .i64 m.rows, .int .i64 m.cols, .slice a n cp] 28)).heap.size=w.heap.size+1:=by simp
 go_enter Tryz.func162,Tryz.ntmps162;go_wp2_with fail;refine (ZfG (hV.grow hG1) hb).mono ?_;rintro e w2 ⟨rfl,hG2⟩;have hs2:=hG2.size;have hG:=hG1.trans hG2;cases hm:Zad m with
 |false=>
  have Hr:=hid (show ZdP m=false/\ldL m=[] by unfold ZdP ldL;rw[hm];exact ⟨rfl,rfl⟩);clear hm;go_wp2
  go_ret2
  exact ⟨_,by rw[Hr.out.1];rfl,by rw[Hr.out.2];exact OI.mt (by simp) ⟨by omega,by simp⟩,hG.alloc _ _⟩
 |true=>
  obtain ⟨N,e1,e2,hN,hl,hn⟩:=Ze8 hm;have Hr:=hid (show ZdP m=(ZaW m.cells N N).isSome/\ldL m=(ZaW m.cells N N).getD [] by unfold ZdP ldL;rw[hm,e1];exact ⟨rfl,rfl⟩);rw[e1,e2] at bM hG2;have bM2:=bM.grow hG2;have rd2:RdI w2 (fun g=>g<w.heap.size) a n cp m.cells:=(h.weak (T:=fun g=>g<w.heap.size) (fun _ hb _=>hb)).grow hG;obtain ⟨g,hg⟩: ∃ g,g=m.cells:=⟨_,rfl⟩;rw[←hg] at rd2 hl hn Hr;have Hl:=hid hl;have hltM:=bM2.lt;have hE:Own (w2.alloc (.cells #[] 3)) 3 1 (some ⟨w2.heap.size,0,none⟩) 0 0 []:=Own.fresh (by unfold maxLen;omega) rfl;clear hm hg h hV hl;rw[e1,e2];clear e1 e2 ir ic hb;go_wp2;go_loopw [4,5] (fun ov kv wr=>Grow w2 wr/\ ∃ (k c2:Nat) (a2:Option Addr) (l:List Int),k<=N/\kv= .int .i64 ((k+1:Nat):Int)/\ov= .slice a2 k c2/\ZaW g N k=some l/\Own wr 3 1 a2 k c2 (ints l)/\ ∀ q,blk a2=some q->w2.heap.size<=q) (fun _ k _=>N+1-(intOf k).toNat);case atStart=>exact ⟨(Grow.refl _).alloc _ _,0,0,_,[],Nat.zero_le _,rfl,rfl,rfl,hE,fun q hq=>by simp at hq;omega⟩
  case round=>
   clear hE;obtain ⟨hGr,k,c2,a2,l,hk,rfl,rfl,hld,hO,hlo⟩:=hrel;have bMr:=bM2.grow hGr;obtain ⟨⟨m0,m1,m2⟩, -⟩:=bMr.three;have hltr:=bMr.lt;have hsr:=hGr.size;have hln:=ZgS hld;have Hld:=hid hld;clear hld;by_cases hlt:k<N
   ·have hk1:((k+1:Nat):Int)<=(N:Int):=(by omega);go_wp2_with fail;refine (Zdh (k+1) (k+1) _ (by omega) (by omega)).mono ?_;rintro e w3 ⟨oa,rfl,hOn,hlon,hG3⟩;obtain ⟨w4,hw4,hG4,bO, -⟩:=al1 w3 #[.int .i64 ((k+1:Nat):Int), .int .i64 ((k+1:Nat):Int), .slice oa ((k+1)*(k+1)) ((k+1)*(k+1))] 28;have hG34:=hG3.trans hG4;have hOn4:=hOn.grow hG4;have bM4:=bMr.grow hG34;have rd4:=(rd2.grow hGr).grow hG34;have hO4:=hO.grow hG34;have nM:blk oa≠some w.heap.size:=fun e=>(by have:=hlon _ e;omega);have nO:blk oa≠some w3.heap.size:=fun e=>(by have:=hOn.lt e;omega);have nD: ∀ g,g<wr.heap.size->blk oa≠some g:=fun g hg e=>(by have:=hlon _ e;omega);have hkk:(k+1)*(k+1)<=6*6:=Nat.mul_le_mul (by omega) (by omega);have hz:ints (List.replicate ((k+1)*(k+1)) 0)=ints (ZbS g N (k+1) 0++List.replicate ((k+1-0)*(k+1)) 0):=(by simp[ZbS]);rw[hz] at hOn4;have Hw4:=hid hw4;have HO:=hid hO;have hOlt: ∀ q,blk a2=some q->q<wr.heap.size:=fun q hq=>hO.lt hq;obtain ⟨kk,hKd⟩: ∃ kk,kk=k+1:=⟨_,rfl⟩;rw[←hKd] at bO hOn4 hkk hOn;rw[←hKd];have HK:=hid hKd;have hKN:kk<=N:=(by omega);have hw4':w4=w3.alloc (.cells #[.int .i64 (kk:Int), .int .i64 (kk:Int), .slice oa (kk*kk) (kk*kk)] 28):=(by rw[hw4,hKd]);have Hw4':=hid hw4';clear hw4 hw4' hz m0 m1 m2 hltr hO hOn hKd Hw4;go_wp2;rw[←Hw4'.out];obtain ⟨wo,rfl⟩: ∃ wo,wo=wr:=⟨_,rfl⟩;go_loopw [7] (fun iv wr=>Keep (fun g=>blk oa≠some g) w4 wr/\ ∃ i:Nat,i<=kk/\iv= .int .i64 i/\Own wr 3 1 oa (kk*kk) (kk*kk) (ints (ZbS g N kk i++List.replicate ((kk-i)*kk) 0))) (fun i _=>kk-(intOf i).toNat);case atStart=>exact ⟨Keep.refl _ _,0,Nat.zero_le _,rfl,hOn4⟩
    case round=>
     clear hOn4;obtain ⟨hKp,i,hi,rfl,hOx⟩:=hrel;have bMx:=bM4.keep hKp nM;have bOx:=bO.keep hKp nO;have rdx:=rd4.keep hKp (fun q hq h0=>nD q (by omega));by_cases hlti:i<kk
     ·have hri:=Zl (C:=kk+1) (j:=0) (by omega) hlti;have hic:i*kk+kk<=kk*kk:=(by have:=Nat.mul_le_mul_right kk (show i+1<=kk from hlti);rw[Nat.add_mul] at this;omega);have Hsp:=hid (Zlo (m:=g) (K:=N) (R:=N) (R':=kk) (n:=kk) (t:=i) Hl.out hKN hlti hKN);clear hri;go_wp2;have hle0:=rdx.row.le;have hml:=rdx.len;have Hml:=hid hml;clear hml;refine Zd (S:=(Keep (fun g=>blk oa≠some g) wr)) [([0,1,3,4,6],some 2),([],some 5),([7],some 8)] Zm (by kernel_rfl) (fun _ _ _ _ _ h=>h) (Keep.refl _ _).drew ?_;show wpQuiet _ _ _ _ [_,_,_,_,_] _;(repeat (first |(go_big_quiet_want;(first |refine Zc Zb rfl rfl (fun w' hG=>bOx.keep hG nO) ?_|refine Zc Zb rfl rfl (fun w' hG=>bMx.keep hG nM) ?_|refine Zal (x:= .tmp 34) (h:= .tmp 35) rfl rsl ?_);go_big_quiet_on;simp only[putP])|go_big_quiet_step (exact fun _=>rfl)));refine wpQuiet_nil ?_;obtain ⟨w7,hw7⟩: ∃ w7,w7=wr.drew:=⟨_,rfl⟩;rw[←hw7];have hG7:Grow wr w7:=(by rw[hw7];exact (Grow.refl _).drew);clear hw7;refine Zh rfl (fun K hK=> ?_);go_wp2_with fail;refine (Zgf oa (kk*kk) (kk*kk) kk i (kk:Int) _ _ (hOx.grow hG7) (by simpa using hic) (by omega) (by omega)).mono ?_;rintro e w8 ⟨a8,rfl,hA8,hG8⟩;have hG78:=hG7.trans hG8;go_wp2_with fail;refine hK _ _ (hG78.any) ?_;clear hK K;refine wpQuiet_nil ?_;refine Zh rfl (fun K hK=> ?_);go_wp2_with fail;refine (ZiC a n cp N N i g _ (rdx.grow hG78) Hl.out (by omega) (by omega) (by omega)).mono ?_;rintro e w9 ⟨a9,c9,rfl,rRow,hG9⟩;have hG79:=hG78.trans hG9;have hc9:=rRow.row.le;have rsl:=T_ints.atH (a:=a9) (n:=N) (cap:=c9) (k:=kk) (i:=(kk:Int)) (by simp) (by omega);have rP:=rRow.pre hKN;go_wp2_with fail;refine hK _ _ (hG79.any) ?_;clear hK K;show wpQuiet _ _ _ _ [_] _;(try (conv=>arg 6;simp only[putP]));(repeat (first |(go_big_quiet_want;(first |refine Zc Zb rfl rfl (fun w' hG=>bOx.keep hG nO) ?_|refine Zc Zb rfl rfl (fun w' hG=>bMx.keep hG nM) ?_|refine Zal (x:= .tmp 34) (h:= .tmp 35) rfl rsl ?_);go_big_quiet_on;simp only[putP])|go_big_quiet_step (exact fun _=>rfl)));refine wpQuiet_nil ?_;refine Zh rfl (fun K hK=> ?_);have hO9:=hOx.grow hG79;refine Zpt rfl T_ints rfl rfl hO9 rP.row (Zfd _) (by omega) hA8 ?_;intro w10 v10 hO10 hK10;rw[Hsp.out] at hO10;have hKs:Keep (fun g=>blk oa≠some g) wr w10:=hG79.any.trans hK10;refine hK _ _ hKs ?_;clear hK K;refine Zi ?_;clear Hsp hOx hO9;go_wp2;go_roundw;case rel=>exact ⟨hKp.trans hKs,i+1,by omega,by go_num,hO10⟩
      case measure=>simp[intOf];omega
     ·obtain rfl:i=kk:=(by omega);have hcl:=Zgv (m:=g) (K:=N) (n:=i) Hl.out hKN (t:=i) hKN;have e0:ZbS g N i i++List.replicate ((i-i)*i) 0=ZbS g N i i:=(by simp);rw[e0] at hOx;have rdO:=hOx.rdI (S:=fun _=>True) (fun _ _=>trivial) (ZA (Zh3 hn i));obtain ⟨⟨o0,o1,o2⟩, -⟩:=bOx.three;have hltO:=bOx.lt;go_wp2_with fail;refine (Zkb i oa (i*i) (i*i) (ZbS g N i i) _ rdO hcl (by omega) (Zh3 hn i)).mono ?_;rintro e wy ⟨x,rfl,hx,hGy⟩;have hKw:Keep (fun q=>q<wo.heap.size) wo wy:=(hG34.any.trans (hKp.mono fun q hq h0=>nD q h0)).trans hGy.any;have bMy:=(bMx.grow hGy);have hGf:Grow w2 wy:=hGr.keep (hKw.mono fun q _ hq=>hq) fun q hq=>(by omega);cases hd:Zak i (ZbS g N i i) with
      |none=>
       have Hn:=hid (show ZaW g N N=none by
        refine Zk6 (k:=i) ?_ (by omega);rw[HK.out];simp only[ZaW];rw[Hld.out,Option.bind_some, ←HK.out,hd];rfl)
       have hsy:=hGf.size;clear hd hx;go_wp2
       go_ret2
       exact ⟨_,by rw[Hr.out.1,Hn.out];rfl,by rw[Hr.out.2,Hn.out];exact OI.mt rfl ⟨by omega,by simp⟩,(hG.trans hGf).alloc _ _⟩
      |some d=>
       obtain rfl:x=d:=hx d hd;have Hnx:=hid (show ZaW g N i=some (l++[x]) by
        rw[HK.out];simp only[ZaW];rw[Hld.out,Option.bind_some, ←HK.out,hd];rfl)
       have hdn:=Zcy hd;clear hd hx;have hOy:=HO.out.keep hKw fun q hq _=>hOlt q hq;go_wp2_with (at_builtin;refine ZS rfl (.tmp 46) (.tmp 48) _ rfl T_ints rfl (hOy.grow ((Grow.refl _).alloc _ _)) rfl (Row.built (S:=fun _=>True) 1 (by unfold maxLen;omega) rfl trivial) (by simp[Value.oneCell']) (by omega) (by unfold maxLen;omega) ?_;intro a5 c5 w5 hA5);have hG5:Grow w2 w5:=hA5.grow (hGf.alloc _ _) hlo;have hO5:Own w5 3 1 a5 (k+1) c5 (ints (l++[x])):=(by have:=hA5.own;simpa using this);have hlo5: ∀ q,blk a5=some q->w2.heap.size<=q:=hA5.lo (by have:=hGf.size;simp;omega) hlo;rw[←HK.out] at hO5;have hki:i=k+1:=HK.out;have HKi:=hid hki;rw[←HKi.out];clear hki;go_wp2;go_roundw;case rel=>exact ⟨hG5,i,c5,a5,l++[x],hKN,by go_num,rfl,Hnx.out,hO5,hlo5⟩
       case measure=>simp[intOf];omega
   ·obtain rfl:k=N:=(by omega);have hk1: ¬ ((k+1:Nat):Int)<=(k:Int):=(by omega);go_wp2
    go_ret2
    exact ⟨_,by rw[Hr.out.1,Hld.out];rfl,by rw[Hr.out.2,Hld.out];exact ⟨_,_,_,rfl,hO,fun x hx=>by have:=hln.2 x hx;unfold I64;omega,fun q hq=>⟨by have:=hlo q hq;omega,hO.lt hq⟩⟩,hG.trans hGr⟩

end Go.Proofs.YtgeoehnbpkediaaGreat
