/- IsSheet: plain part. -/
import Derived.Test.YtgeoehnbpkediaaGreatZIsName
set_option maxHeartbeats 8000000
set_option maxRecDepth 100000
namespace Go.Proofs.YtgeoehnbpkediaaGreat
open Go.RowKit
open Lib (hid)
variable {S:Nat->Prop} {k:Nat} {l:List Dfn}
theorem ZgL {α:Type} {f:α->Bool}: ∀ {l:List α} {k:Nat},0<=firstIdx f (l.take k)->firstIdx f l=firstIdx f (l.take k)
 |[],k,h=>by simp
 |x::r,0,h=>by simp[firstIdx] at h
 |x::r,k+1,h=>by
  simp only[List.take_succ_cons,firstIdx] at h ⊢;by_cases hx:f x=true
  ·simp[hx]
  ·simp only[hx] at h ⊢;by_cases h0:firstIdx f (r.take k)<0
   ·rw[if_pos h0] at h;simp at h
   ·rw[ZgL (l:=r) (k:=k) (by omega)]
theorem Zkq {α:Type} {f:α->Bool} {l:List α} {x:α} (hk:l[k]? =some x) (hx:f x=true):(firstIdx f l==(k:Int))=decide (firstIdx f (l.take k)<0):=by
 rw[Bool.eq_iff_iff,beq_iff_eq,decide_eq_true_eq];constructor
 ·intro h;by_cases h0:0<=firstIdx f (l.take k)
  ·have h1:=ZgL h0;have h2:=(Zcg f (l.take k)).2;have h3:=List.length_take_le k l;omega
  ·omega
 ·intro h;refine ZcL (fun y hy=> ?_) hk hx;have:=mt (Za8 f (l.take k)).2 (by omega);simp only[Bool.not_eq_true,List.any_eq_false] at this;simpa using this y hy
def ZaC (l:List Dfn) (k:Nat):Bool:=match l[k]? with
 |some d=>Zbg d&&decide (Zk (l.take k) d.name<0)
 |none=>true
def ZF (l:List Dfn):Bool:=(List.range l.length).all (ZaC l)&&decide (l.length<=12)
theorem Zd1 (hk:k<l.length) (h:ZaC l k=false):ZF l=false:=by
 unfold ZF;rw[show (List.range l.length).all (ZaC l)=false from List.all_eq_false.2 ⟨k,List.mem_range.2 hk,by simp[h]⟩];rfl
theorem ZgY (h: ∀ k,k<l.length->ZaC l k=true):ZF l=decide (l.length<=12):=by
 unfold ZF;rw[List.all_eq_true.2 fun k hk=>h k (List.mem_range.1 hk)];rfl
theorem Zkr {d:Dfn} (hk:l[k]? =some d):(Zk l d.name==(k:Int))=decide (Zk (l.take k) d.name<0):=
 Zkq (α:=Dfn) (f:=fun e=>e.name.toList==d.name.toList) hk (by simp)
theorem Zbz (a:Option Addr) (n cap:Nat) (l:List Dfn) (w:World) (h:RdD w S a n cap l) (hn:n<=1048576) (hcl: ∀ d∈l,d.value.cells.length<=2097152):
  Calls Tryz.prog 13 #[.slice a n cap] w fun e w'=>e= .returned (.bool (ZF l))/\Grow w w':=by
 have Hl:=hid h.len;go_enter Tryz.func13,Tryz.ntmps13;go_wp2;go_loopw [7] (fun i wr=>Grow w wr/\ ∃ k:Nat,k<=n/\i= .int .i64 k/\ ∀ j,j<k->ZaC l j=true) (fun i _=>n-(intOf i).toNat);case atStart=>exact ⟨Grow.refl _,0,Nat.zero_le _,rfl,fun j hj=>by omega⟩
 case round=>
  obtain ⟨hG,k,hk,rfl,he⟩:=hrel;have He:=hid he;clear he;by_cases hlt:k<n
  ·obtain ⟨b,off,d,a1,c1,rfl,hx,_,hbw,⟨e0,e1,e2,e3,e4,e5,e6⟩,r1,ho⟩:=(h.grow hG).at hlt;have hcd:=hcl d (List.mem_of_getElem? hx);have hself:=Zkr hx;have hgd:ZaC l k=(Zbg d&&decide (Zk (l.take k) d.name<0)):=(by unfold ZaC;rw[hx]);have Hx:=hid hx;clear hx;have Hg:=hid hgd;clear hgd;have Hs:=hid hself;clear hself;have hkl:=hid (show k<l.length by rw[Hl.out];exact hlt);obtain ⟨wb,hwb,hGb,hBb, -⟩:=al1 wr #[.string d.name, .int .i64 d.op, .string d.a, .string d.b, .int .i64 d.value.rows, .int .i64 d.value.cols, .slice a1 d.value.cells.length c1] 30;have Hwb:=hid hwb;clear hwb;go_wp2_with fail;rw[←Hwb.out];refine (Zl9 (d:=d) ⟨_,_,_,rfl,r1.grow hGb,ho⟩ hcd).mono ?_;rintro e w1 ⟨rfl,hG1⟩;have hBb1:=hBb.grow hG1;obtain ⟨⟨z0,z1,z2,z3,z4,z5,z6⟩, -⟩:=hBb1.seven;cases hd:Zbg d with
   |false=>have HD:=hid hd;clear hd;go_wp2;go_ret;exact ⟨Zm (Zd1 hkl.out (by rw[Hg.out,HD.out];rfl)).symm,(hG.trans hGb).trans hG1⟩
   |true=>
    have HD:=hid hd;clear hd;go_wp2_with fail;refine (ZcF _ _ _ l d.name _ (((h.grow hG).grow hGb).grow hG1) (by omega)).mono ?_;rintro e w2 ⟨rfl,hG2⟩;have hG':=((hG.trans hGb).trans hG1).trans hG2;cases hq:(Zk l d.name==(k:Int)) with
    |false=>have hq2:(Zk l d.name !=(k:Int))=true:=(by simp[bne,hq]);have HQ:=hid hq;clear hq;go_wp2;go_ret;exact ⟨Zm (Zd1 hkl.out (by rw[Hg.out,HD.out, ←Hs.out,HQ.out];rfl)).symm,hG'⟩
    |true=>
     have hq2:(Zk l d.name !=(k:Int))=false:=(by simp[bne,hq]);have HQ:=hid hq;clear hq;go_wp2;go_roundw;case rel=>
      refine ⟨hG',k+1,by omega,by go_num,fun j hj=> ?_⟩;rcases Nat.lt_succ_iff_lt_or_eq.1 hj with hj|rfl
      ·exact He.out j hj
      ·rw[Hg.out,HD.out, ←Hs.out,HQ.out];rfl
     case measure=>simp[intOf];omega
  ·go_wp2;go_ret;have:k=n:=(by omega);subst this;have hy:=ZgY (l:=l) fun j hj=>He.out j (by rw[Hl.out] at hj;exact hj);exact ⟨Zm (by rw[hy,Hl.out,decide_eq_decide];omega),hG⟩
theorem ZiA (hb:Zat l<=1048576): ∀ d∈l,d.value.cells.length<=2097152:=by
 intro d hd;obtain ⟨k,hk,he⟩:=List.mem_iff_getElem.1 hd;have h1:=(ZfZ (List.getElem?_eq_some_iff.2 ⟨hk,he⟩)).2;unfold Zat at hb;unfold bdD at h1;omega
theorem Zbx (a:Option Addr) (n cap:Nat) (l:List Dfn) (w:World) (h:RdD w S a n cap l) (hn:n<=1048576) (hcl: ∀ d∈l,d.value.cells.length<=2097152):
  Calls Tryz.prog 14 #[.slice a n cap] w fun e w'=>e= .returned (.bool (ZF l))/\Grow w w':=by
 have Hl:=hid h.len;go_enter Tryz.func14,Tryz.ntmps14;go_wp2;go_loopw [3] (fun i wr=>Grow w wr/\ ∃ k:Nat,k<=n/\i= .int .i64 k/\ ∀ j,j<k->ZaC l j=true) (fun i _=>n-(intOf i).toNat);case atStart=>exact ⟨Grow.refl _,0,Nat.zero_le _,rfl,fun j hj=>by omega⟩
 case round=>
  obtain ⟨hG,k,hk,rfl,he⟩:=hrel;have He:=hid he;clear he;by_cases hlt:k<n
  ·have hr:=h.grow hG;have hpre:=hr.pre (k:=k) (by omega);obtain ⟨b,off,d,a1,c1,rfl,hx,_,hbw,hd1,r1,ho⟩:=hr.at hlt;have hcd:=hcl d (List.mem_of_getElem? hx);have hgd:ZaC l k=(Zbg d&&decide (Zk (l.take k) d.name<0)):=(by unfold ZaC;rw[hx]);have hR:=T_defs.atH (a:=some (⟨b,off,none⟩:Addr)) (n:=n) (cap:=cap) (k:=k) (i:=k) rfl (by have:=hr.cap_le;omega);have Hx:=hid hx;clear hx;have hkl:=hid (show k<l.length by rw[Hl.out];exact hlt);cases hd:Zbg d with
   |false=>have HD:=hid hd;have HF:=hid (show ZaC l k=false by rw[hgd,hd];rfl);clear hd hgd;go_wp2;refine Zc (S:=Grow wr) [([0,1,2,3],some 4),([5,6,7,8,9,10,11,12,13,14],some 15),([16,17],none)] Zj (by kernel_rfl) (fun _ _ _ _ _ h=>h) (Grow.refl _).drew ?_;show wpQuiet _ _ _ _ [_,_,_,_] _;(repeat (first |(go_big_quiet_want;(first |refine Zq Zaw rfl rfl (fun w' hG=>hd1.grow hG) ?_|refine Za Zo rfl rfl (fun w' hG=>hG.cell hd1.1) ?_|refine Zah (x:= .tmp 17) (h:= .tmp 18) rfl hR ?_);go_big_quiet_on;simp only[putP])|go_big_quiet_step (exact fun _=>rfl)));refine wpQuiet_nil ?_;refine Ze rfl (fun K hK=> ?_);go_wp2_with fail;refine (ZfK (d:=d) ⟨_,_,_,rfl,r1.grow (Grow.refl _).drew,ho⟩ hcd).mono ?_;rintro e w1 ⟨rfl,hGq⟩;have hGx:=(Grow.refl wr).drew.trans hGq;clear hGq;rw[HD.out];go_wp2_with fail;refine hK _ _ (hGx) ?_;clear hK K;show wpQuiet _ _ _ _ [_,_,_,_,_,_,_,_,_,_] _;(try (conv=>arg 6;simp only[putP]));(repeat (first |(go_big_quiet_want;(first |refine Zq Zaw rfl rfl (fun w' hG=>hd1.grow hG) ?_|refine Za Zo rfl rfl (fun w' hG=>hG.cell hd1.1) ?_|refine Zah (x:= .tmp 17) (h:= .tmp 18) rfl hR ?_);go_big_quiet_on;simp only[putP])|go_big_quiet_step (exact fun _=>rfl)));refine wpQuiet_nil ?_;refine ZbU rfl (hGx) ?_;show wpQuiet _ _ _ _ [_,_] _;(try (conv=>arg 6;simp only[putP]));(repeat (first |(go_big_quiet_want;(first |refine Zq Zaw rfl rfl (fun w' hG=>hd1.grow hG) ?_|refine Za Zo rfl rfl (fun w' hG=>hG.cell hd1.1) ?_|refine Zah (x:= .tmp 17) (h:= .tmp 18) rfl hR ?_);go_big_quiet_on;simp only[putP])|go_big_quiet_step (exact fun _=>rfl)));refine wpQuiet_nil ?_;refine Zh ?_;go_wp2;go_ret;exact ⟨Zm (Zd1 hkl.out HF.out).symm,hG.trans hGx⟩
   |true=>
    have HD:=hid hd;by_cases hq:0<=Zk (l.take k) d.name
    ·have HF:=hid (show ZaC l k=false by rw[hgd,decide_eq_false (by omega)];simp);clear hd hgd;generalize hfn:Zk (l.take k) d.name=fn at *;have Hfn:=hid hfn;clear hfn;go_wp2;refine Zc (S:=Grow wr) [([0,1,2,3],some 4),([5,6,7,8,9,10,11,12,13,14],some 15),([16,17],none)] Zj (by kernel_rfl) (fun _ _ _ _ _ h=>h) (Grow.refl _).drew ?_;show wpQuiet _ _ _ _ [_,_,_,_] _;(repeat (first |(go_big_quiet_want;(first |refine Zq Zaw rfl rfl (fun w' hG=>hd1.grow hG) ?_|refine Za Zo rfl rfl (fun w' hG=>hG.cell hd1.1) ?_|refine Zah (x:= .tmp 17) (h:= .tmp 18) rfl hR ?_);go_big_quiet_on;simp only[putP])|go_big_quiet_step (exact fun _=>rfl)));refine wpQuiet_nil ?_;refine Ze rfl (fun K hK=> ?_);go_wp2_with fail;refine (ZfK (d:=d) ⟨_,_,_,rfl,r1.grow (Grow.refl _).drew,ho⟩ hcd).mono ?_;rintro e w1 ⟨rfl,hGq⟩;have hGx:=(Grow.refl wr).drew.trans hGq;clear hGq;rw[HD.out];go_wp2_with fail;refine hK _ _ (hGx) ?_;clear hK K;show wpQuiet _ _ _ _ [_,_,_,_,_,_,_,_,_,_] _;(try (conv=>arg 6;simp only[putP]));(repeat (first |(go_big_quiet_want;(first |refine Zq Zaw rfl rfl (fun w' hG=>hd1.grow hG) ?_|refine Za Zo rfl rfl (fun w' hG=>hG.cell hd1.1) ?_|refine Zah (x:= .tmp 17) (h:= .tmp 18) rfl hR ?_);go_big_quiet_on;simp only[putP])|go_big_quiet_step (exact fun _=>rfl)));refine wpQuiet_nil ?_;refine Ze rfl (fun K hK=> ?_);go_wp2_with fail;refine (Zbb _ _ _ (l.take k) d.name _ (hpre.grow hGx) (by omega)).mono ?_;rintro e w2 ⟨rfl,rfl⟩;rw[Hfn.out];go_wp2_with fail;refine hK _ _ (hGx) ?_;clear hK K;show wpQuiet _ _ _ _ [_,_] _;(try (conv=>arg 6;simp only[putP]));(repeat (first |(go_big_quiet_want;(first |refine Zq Zaw rfl rfl (fun w' hG=>hd1.grow hG) ?_|refine Za Zo rfl rfl (fun w' hG=>hG.cell hd1.1) ?_|refine Zah (x:= .tmp 17) (h:= .tmp 18) rfl hR ?_);go_big_quiet_on;simp only[putP])|go_big_quiet_step (exact fun _=>rfl)));refine wpQuiet_nil ?_;refine Zh ?_;go_wp2;go_ret;exact ⟨Zm (Zd1 hkl.out HF.out).symm,hG.trans hGx⟩
    ·have HF:=hid (show ZaC l k=true by rw[hgd,hd,decide_eq_true (by omega)];rfl);clear hd hgd;generalize hfn:Zk (l.take k) d.name=fn at *;have Hfn:=hid hfn;clear hfn;go_wp2;refine Zc (S:=Grow wr) [([0,1,2,3],some 4),([5,6,7,8,9,10,11,12,13,14],some 15),([16,17],none)] Zj (by kernel_rfl) (fun _ _ _ _ _ h=>h) (Grow.refl _).drew ?_;show wpQuiet _ _ _ _ [_,_,_,_] _;(repeat (first |(go_big_quiet_want;(first |refine Zq Zaw rfl rfl (fun w' hG=>hd1.grow hG) ?_|refine Za Zo rfl rfl (fun w' hG=>hG.cell hd1.1) ?_|refine Zah (x:= .tmp 17) (h:= .tmp 18) rfl hR ?_);go_big_quiet_on;simp only[putP])|go_big_quiet_step (exact fun _=>rfl)));refine wpQuiet_nil ?_;refine Ze rfl (fun K hK=> ?_);go_wp2_with fail;refine (ZfK (d:=d) ⟨_,_,_,rfl,r1.grow (Grow.refl _).drew,ho⟩ hcd).mono ?_;rintro e w1 ⟨rfl,hGq⟩;have hGx:=(Grow.refl wr).drew.trans hGq;clear hGq;rw[HD.out];go_wp2_with fail;refine hK _ _ (hGx) ?_;clear hK K;show wpQuiet _ _ _ _ [_,_,_,_,_,_,_,_,_,_] _;(try (conv=>arg 6;simp only[putP]));(repeat (first |(go_big_quiet_want;(first |refine Zq Zaw rfl rfl (fun w' hG=>hd1.grow hG) ?_|refine Za Zo rfl rfl (fun w' hG=>hG.cell hd1.1) ?_|refine Zah (x:= .tmp 17) (h:= .tmp 18) rfl hR ?_);go_big_quiet_on;simp only[putP])|go_big_quiet_step (exact fun _=>rfl)));refine wpQuiet_nil ?_;refine Ze rfl (fun K hK=> ?_);go_wp2_with fail;refine (Zbb _ _ _ (l.take k) d.name _ (hpre.grow hGx) (by omega)).mono ?_;rintro e w2 ⟨rfl,rfl⟩;rw[Hfn.out];go_wp2_with fail;refine hK _ _ (hGx) ?_;clear hK K;show wpQuiet _ _ _ _ [_,_] _;(try (conv=>arg 6;simp only[putP]));(repeat (first |(go_big_quiet_want;(first |refine Zq Zaw rfl rfl (fun w' hG=>hd1.grow hG) ?_|refine Za Zo rfl rfl (fun w' hG=>hG.cell hd1.1) ?_|refine Zah (x:= .tmp 17) (h:= .tmp 18) rfl hR ?_);go_big_quiet_on;simp only[putP])|go_big_quiet_step (exact fun _=>rfl)));refine wpQuiet_nil ?_;refine Zh ?_;go_wp2;go_roundw;case rel=>
      refine ⟨hG.trans hGx,k+1,by omega,by go_num,fun j hj=> ?_⟩;rcases Nat.lt_succ_iff_lt_or_eq.1 hj with hj|rfl
      ·exact He.out j hj
      ·exact HF.out
     case measure=>simp[intOf];omega
  ·go_wp2;go_ret;have:k=n:=(by omega);subst this;have hy:=ZgY (l:=l) fun j hj=>He.out j (by rw[Hl.out] at hj;exact hj);exact ⟨Zm (by rw[hy,Hl.out,decide_eq_decide];omega),hG⟩

end Go.Proofs.YtgeoehnbpkediaaGreat
