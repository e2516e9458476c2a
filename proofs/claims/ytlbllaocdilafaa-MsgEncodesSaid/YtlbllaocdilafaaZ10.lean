import Derived.Test.YtlbllaocdilafaaZ09
set_option linter.unusedSimpArgs false
set_option linter.unusedVariables false
namespace Go.Eng
open Go
def tbL (l:List (Nat×ESpec)) (hs:List (Nat×HSpec)):Tbl:=⟨fun f=>l.lookup f,fun f=>(hs.lookup f).isSome,fun f=>hs.lookup f⟩
theorem tbL_ok {P:Program}{l:List (Nat×ESpec)}{hs:List (Nat×HSpec)}(h1:∀p∈l,CallOk P p.1 p.2) (h2:∀p∈hs,HOk P p.1 p.2):TblOk P (tbL l hs):=
 ⟨fun f s h=>h1 (f,s) (lookup_mem' h),fun f s h=>h2 (f,s) (lookup_mem' h)⟩
def conj:List Prop→Prop
 | []=>True
 |p::l=>p∧conj l
theorem allP:∀{l:List Prop},conj l→∀q∈l,q
 | [],_,q,h=>by simp at h
 |p::l,⟨h1,h2⟩,q,h=>by
  rcases List.mem_cons.1 h with rfl|h
  ·exact h1
  ·exact allP h2 q h
theorem run_ex {P:Program}{W0:World}{m0:Nat}{fn:Func}{R:V→Heap→Prop}{Λ:Type}{ti:TypeId→TI}(hm:P.follows .mixedOrders=true) (hti:TIok P ti){tb:Λ→Tbl}{l0:Λ}(htbl:TblOk P (tb l0)) (d:Nat) (u:Bool) (n:Nat) (hints:List Bool){t:List V}{h:Heap}{T:List Item}{o:List Prop}{s:List Bool}{F:Ar→Λ→Cfg}
 (he:∀ar l,exec ar arR ti (tb l) d u n ⟨t,h,T,[],hints⟩=F ar l) (hq:∀q∈(F arR l0).obs,q) (hr:Run P (tb l0).hc W0 m0 fn R (F arR l0)):Run P (tb l0).hc W0 m0 fn R ⟨t,h,T,o,s⟩:=
 Run.exec hm hti htbl d u n hints (he arR l0) hq hr
def C.norm:C→C
 |.lit k n=>.int k n
 |.lbool b=>.bool b
 |c=>c
def A.norm:A→A
 |.one c=>.one c.norm
 |.agg g=>.agg g
theorem C.norm_rel {ρ:Ren}{x:C}{v:Value}(h:CRel ρ x v):CRel ρ x.norm v:=by
 cases x<;>exact h
theorem A.norm_rel {ρ:Ren}{x:A}{v:Value}(h:ARel ρ x v):ARel ρ x.norm v:=by
 cases x with
 |one c=>exact C.norm_rel h
 |agg g=>exact h
def V.norm:V→V
 |.a x=>.a x.norm
 |v=>v
theorem V.norm_rel {ρ:Ren}{x:V}{v:Value}(h:VRel ρ x v):VRel ρ x.norm v:=by
 cases x with
 |a x=>exact A.norm_rel h
 |tup xs=>exact h
 |z=>exact h
def normT (ns:List Nat):Nat→List V→List V
 |_,[]=>[]
 |i,v::l=>(if ns.contains i then v.norm else v)::normT ns (i+1) l
theorem normT_get {ns:List Nat}:∀{l:List V}{i j:Nat}{x:V},(normT ns i l)[j]? = some x→∃y,l[j]? = some y∧(x=y∨x=y.norm)
 | [],i,j,x,h=>by simp[normT]at h
 |v::l,i,0,x,h=>by
  simp only[normT,List.getElem?_cons_zero,sie]at h
  refine⟨v,rfl,?_⟩
  split at h
  ·exact .inr h.symm
  ·exact .inl h.symm
 |v::l,i,j+1,x,h=>by
  simp only[normT,List.getElem?_cons_succ]at h
  exact normT_get (l:=l) (i:=i+1) (j:=j) h
theorem normT_len {ns:List Nat}:∀{l:List V}{i:Nat},(normT ns i l).length=l.length
 | [],_=>rfl
 |v::l,i=>by simp[normT,normT_len]
def Pt.norm:Pt→Pt
 |.c x=>.c x.norm
 |.v s d=>.v s d
theorem normP_at {ρ:Ren}:∀{ps:List Pt},(cellsP arR (ps.map Pt.norm)).length=(cellsP arR ps).length∧∀(j:Nat) x',(cellsP arR (ps.map Pt.norm))[j]? = some x'→∃x,(cellsP arR ps)[j]? = some x∧∀v,CRel ρ x v→CRel ρ x' v:=by
 intro ps
 induction ps with
 |nil=>exact⟨rfl,fun j x' hx=>by simp[cellsP]at hx⟩
 |cons p l ih=>
  obtain⟨h1,h2⟩:=ih
  cases p with
  |c x=>
   refine⟨by simp[cellsP,Pt.norm,h1],fun j x' hx=>?_⟩
   cases j with
   |zero=>
    have hx:some x.norm=some x':=hx
    simp only[sie]at hx
    subst hx
    exact⟨x,rfl,fun v hv=>C.norm_rel hv⟩
   |succ j=>exact h2 j x' hx
  |v s d=>
   refine⟨by simp[cellsP,Pt.norm,h1],fun j x' hx=>?_⟩
   simp only[List.map_cons,Pt.norm,cellsP]at hx ⊢
   rw[List.getElem?_append]at hx ⊢
   split
   ·rename_i hj
    rw[if_pos hj]at hx
    exact⟨x',hx,fun v hv=>hv⟩
   ·rename_i hj
    rw[if_neg hj]at hx
    exact h2 _ x' hx
def G.norm:G→G
 |.lst cs=>.lst (cs.map C.norm)
 |.prt ps=>.prt (ps.map Pt.norm)
 |g=>g
def normH:Heap→Heap:=List.map (Option.map fun b=>{b with g:=b.g.norm})
theorem G.norm_kind (g:G):g.norm.cells=g.cells∧(g.norm=.tail↔g=.tail)∧(g.norm=.dead↔g=.dead):=by
 cases g<;>simp[G.norm,G.cells]
section
variable {P:Program}{hc:FuncId→Bool}{W0:World}{m0:Nat}{fn:Func}{R:V→Heap→Prop}
theorem normH_get {h:Heap}{n:Nat}{b:Blk}(hb:(normH h)[n]? = some (some b)):∃b',h[n]? = some (some b')∧b.ro=b'.ro∧b.g=b'.g.norm:=by
 simp only[normH,List.getElem?_map,oms]at hb
 obtain⟨x,h1,h2⟩:=hb
 obtain⟨b',rfl,h3⟩:=h2
 exact⟨b',h1,by rw[←h3],by rw[←h3]⟩
theorem normH_of {h:Heap}{n:Nat}{b:Blk}(hb:h[n]? = some (some b)):(normH h)[n]? = some (some {b with g:=b.g.norm}):=by
 simp only[normH,List.getElem?_map,hb,Option.map_some]
theorem HRel.norm {ρ:Ren}{h:Heap}{w:World}(hH:HRel W0 m0 ρ h w):HRel W0 m0 ρ (normH h) w:=by
 have hown:∀r,Owned m0 ρ h r→Owned m0 ρ (normH h) r:=by
  rintro r ⟨n,b,o,h1,h2,h3,h4⟩
  exact⟨n,_,o,h1,normH_of h2,h3.imp id (fun e=>b.g.norm_kind.2.2.2 e),h4⟩
 refine⟨hH.os,hH.tape,hH.output,hH.size,fun k hk hno=>hH.frame k hk (fun ho=>hno (hown k ho)),fun k p hk=>?_,fun k b hk hc=>?_,fun k m r o o' b b' hne hk hro hm hnd e1 e2=>?_,fun k r o hk e=>(hH.new k r o hk e).imp id (hown r),hH.low,fun k b hk hg=>?_,fun k b hk hg=>?_,fun k hv=>?_,fun k b hk hp=>?_,hH.zok,fun k b r o i hk hro hp hi=>?_,fun r i v hv hr=>(hH.zold r i v hv hr).imp id (hown r),hH.yok⟩
 ·obtain⟨b,hb⟩:=hH.dom k p hk
  exact⟨_,normH_of hb⟩
 ·obtain⟨b',h1,h2,h3⟩:=normH_get hk
  rw[h3]at hc
  obtain⟨r,o,e,c,ty,fz,q1,q2,q3⟩:=hH.blk k b' h1 (by rw[←b'.g.norm_kind.1];exact hc)
  refine⟨r,o,e,c,ty,fz,q1,fun hr=>q2 (by rw[←h2];exact hr),fun j x hx=>?_⟩
  rw[h3]at hx
  cases hg:b'.g with
  |lst l=>
   rw[hg]at hx q3
   simp only[G.norm,G.at,List.getElem?_map,oms]at hx
   obtain⟨y,hy,rfl⟩:=hx
   obtain⟨v,a1,a2⟩:=q3 j y hy
   exact⟨v,a1,C.norm_rel a2⟩
  |prt ps=>
   rw[hg]at hx q3
   obtain⟨y,hy,hyx⟩:=(normP_at (ρ:=ρ)).2 j x hx
   obtain⟨v,a1,a2⟩:=q3 j y hy
   exact⟨v,a1,hyx v a2⟩
  |ints k n f=>rw[hg]at hx q3;exact q3 j x hx
  |col s n f=>rw[hg]at hx q3;exact q3 j x hx
  |tail=>rw[hg]at hx;cases hx
  |dead=>rw[hg]at hx;cases hx
 ·obtain⟨b1,h1,h2,h3⟩:=normH_get hk
  obtain⟨b2,g1,g2,g3⟩:=normH_get hm
  exact hH.sep k m r o o' b1 b2 hne h1 (by rw[←h2];exact hro) g1 (fun e=>hnd (by rw[g3];exact b2.g.norm_kind.2.2.2 e)) e1 e2
 ·obtain⟨b',h1,h2,h3⟩:=normH_get hk
  rw[h2]
  exact hH.tails k b' h1 (by rw[h3]at hg;exact b'.g.norm_kind.2.1.1 hg)
 ·obtain⟨b',h1,h2,h3⟩:=normH_get hk
  rw[h2]
  exact hH.deadRo k b' h1 (by rw[h3]at hg;exact b'.g.norm_kind.2.2.1 hg)
 ·obtain⟨e,b,hb⟩:=hH.vd1 k hv
  exact⟨e,_,normH_of hb⟩
 ·obtain⟨b',h1,h2,h3⟩:=normH_get hk
  exact hH.vd2 k b' h1 hp
 ·obtain⟨b',h1,h2,h3⟩:=normH_get hk
  exact hH.zsep k b' r o i h1 (by rw[←h2];exact hro) hp (fun e=>hi (by rw[h3];exact b'.g.norm_kind.2.1.2 e))
theorem Run.norm {t:List V}{h:Heap}{T:List Item} {o o':List Prop} {s s':List Bool}(ns:List Nat) (hr:Run P hc W0 m0 fn R ⟨normT ns 0 t,normH h,T,o,s⟩):Run P hc W0 m0 fn R ⟨t,h,T,o',s'⟩:=by
 intro hok hm ρ tmps w b cs hT hH
 refine hr hok (by simpa [normH]using hm) ρ tmps w b cs ⟨by rw[hT.1];simp[normT_len],fun j x hx=>?_⟩ hH.norm
 obtain⟨y,hy,hxy⟩:=normT_get hx
 obtain⟨v,h1,h2⟩:=hT.2 j y hy
 rcases hxy with rfl|rfl
 ·exact⟨v,h1,h2⟩
 ·exact⟨v,h1,V.norm_rel h2⟩
theorem Run.cut {c:Cfg}(blocks keep ns:List Nat){bs:List Blk}(hnd:blocks.Nodup) (hpre:preB m0 blocks 0=true) (hB:packH blocks c.heap=some bs)
 (h:Run P hc W0 m0 fn R ⟨normT ns 0 ((keepT keep 0 c.tmps).map (packV blocks)),normH (bs.map some),c.todo,[],[]⟩):Run P hc W0 m0 fn R c:=
 Run.pack blocks keep hnd hpre hB (Run.norm ns h)
def nodupB:List Nat→Bool
 | []=>true
 |x::l=>!(l.contains x)&&nodupB l
theorem nodupB_sem:∀{l:List Nat},nodupB l=true→l.Nodup
 | [],_=>List.nodup_nil
 |x::l,h=>by
  simp only[nodupB,bat,Bool.not_eq_true']at h
  exact List.nodup_cons.2 ⟨by simpa using h.1,nodupB_sem h.2⟩
def packC (m0:Nat) (blocks keep ns:List Nat) (c:Cfg):Option Cfg:=
 if preB m0 blocks 0&&nodupB blocks then match packH blocks c.heap with
  |some bs=>some ⟨normT ns 0 ((keepT keep 0 c.tmps).map (packV blocks)),normH (bs.map some),c.todo,c.obs,c.hints⟩
  |none=>none
 else none
theorem Run.fam3 {ι:Type}(S:ι→List V×Heap){x:Item}{T:List Item}(i0:ι)
 (h:∀i,Run P hc W0 m0 fn R ⟨(S i).1,(S i).2,x::T,[],[]⟩):Run P hc W0 m0 fn R ⟨(S i0).1,(S i0).2,x::T,[],[]⟩:=h i0
end
section
variable {P:Program}{fn:Func}
end
theorem rcmp_geq (x y:Int):rcmp .geq x y=decide (x≥y):=by unfold rcmp;rfl
theorem rcmp_lss (x y:Int):rcmp .lss x y=decide (x<y):=by unfold rcmp;rfl
theorem rcmp_gtr (x y:Int):rcmp .gtr x y=decide (x>y):=by unfold rcmp;rfl
theorem rcmp_leq (x y:Int):rcmp .leq x y=decide (x≤y):=by unfold rcmp;rfl
theorem rcmp_eql (x y:Int):rcmp .eql x y=decide (x=y):=by unfold rcmp;rw[Bool.eq_iff_iff,beq_iff_eq,decide_eq_true_eq]
theorem rcmp_neq (x y:Int):rcmp .neq x y=decide (x≠y):=by unfold rcmp;rw[Bool.eq_iff_iff,bne_iff_ne,decide_eq_true_eq]
theorem z0:(∀p:Prop,(p∧True)=p)∧(∀n:Nat,Int.ofNat n=(n:Int))∧(∀x y:Int,rcmp .lss x y=decide (x<y))∧(∀x y:Int,rcmp .gtr x y=decide (x>y))∧(∀x y:Int,rcmp .geq x y=decide (x≥y))∧(∀x y:Int,rcmp .leq x y=decide (x≤y))∧(∀x y:Int,rcmp .eql x y=decide (x=y))∧(∀x y:Int,rcmp .neq x y=decide (x≠y))∧(∀{p:Prop} [Decidable p],(decide p=true)=p)∧(∀{p:Prop}{_:Decidable p},decide p=false↔¬p)∧((¬True)=False)∧((¬False)=True)∧(∀n:Nat,(n:Int).toNat=n):=
 ⟨and_true,Int.ofNat_eq_natCast,rcmp_lss,rcmp_gtr,rcmp_geq,rcmp_leq,rcmp_eql,rcmp_neq,@decide_eq_true_eq,@decide_eq_false_iff_not,not_true_eq_false,not_false_eq_true,Int.toNat_natCast⟩
theorem z1.{u}:(∀{α:Type u}{a:α}{as:List α},(a::as).length=as.length+1)∧(∀{α:Type u},([]:List α).length=0):=⟨@List.length_cons,@List.length_nil⟩
theorem z2.{u}:∀{α:Sort u}(a b:α),(a≠b)=¬a=b:=@ne_eq
theorem wrap_i64 {n:Int}(h0:-9223372036854775808≤n) (h1:n<9223372036854775808):IntKind.i64.wrap n=n:=by
 unfold IntKind.wrap;simp[IntKind.bits,IntKind.signed];omega
theorem addi {x y:Int}(h0:-9223372036854775808≤x+y) (h1:x+y<9223372036854775808):rbin .add .i64 x y=x+y:=wrap_i64 h0 h1
theorem subi {x y:Int}(h0:-9223372036854775808≤x-y) (h1:x-y<9223372036854775808):rbin .sub .i64 x y=x-y:=wrap_i64 h0 h1
theorem muli {x y:Int}(h0:-9223372036854775808≤x*y) (h1:x*y<9223372036854775808):rbin .mul .i64 x y=x*y:=wrap_i64 h0 h1
section
variable {P:Program}{hc:FuncId→Bool}{W0:World}{m0:Nat}{fn:Func}{R:V→Heap→Prop}
theorem Run.room {t:List V}{h:Heap}{T:List Item}{o:List Prop}{s:List Bool}(i:Nat) (sh:Sh) (hi:t[i]? = some (.a (.one .nsl))) (hm:m0≤h.length)
 (hr:Run P hc W0 m0 fn R ⟨t.set i (.a (.one (.dat sh [] (some h.length)))),h++[some ⟨false,.tail⟩],T,[],[]⟩):Run P hc W0 m0 fn R ⟨t,h,T,o,s⟩:=by
 intro hok hm0 ρ tmps w b cs hT hH
 have h1:=(hH.pad 1).tailVoid (nm:=h.length) (by simp) hm
 have e:(h++List.replicate 1 none).set h.length (some ⟨false,.tail⟩)=h++[some ⟨false,.tail⟩]:=by simp
 rw[e]at h1
 refine .ext (Ext.void (nm:=h.length)) (hr hok (by simp only[List.length_append];omega) (ρ.void h.length) tmps w b cs ⟨by rw[hT.1];simp,fun j x hx=>?_⟩ h1)
 simp only at hx hT
 rw[List.getElem?_set]at hx
 by_cases hij:i=j
 ·subst hij
  rw[if_pos rfl]at hx
  by_cases hl:i<t.length
  ·rw[if_pos hl]at hx
   simp only[sie]at hx
   subst hx
   obtain⟨u,h1,h2⟩:=hT.2 i _ hi
   exact⟨u,h1,.inl ⟨h2,rfl⟩⟩
  ·rw[if_neg hl]at hx;cases hx
 ·rw[if_neg hij]at hx
  obtain⟨u,h1,h2⟩:=hT.2 j x hx
  exact⟨u,h1,h2.ext (Ext.void (ρ:=ρ) (nm:=h.length)).toSub⟩
theorem Run.tri {t:List V}{h:Heap}{K:List Item}{x y:Code}{o:List Prop}{s:List Bool}{i:Nat}{p q:Prop}(hi:t[i]? = some (.a (.one (.tri p q))))
 (h1:p→Run P hc W0 m0 fn R ⟨t,h,.code x::K,[],[]⟩) (h2:q→Run P hc W0 m0 fn R ⟨t,h,.code y::K,[],[]⟩):Run P hc W0 m0 fn R ⟨t,h,.code (.cond (.tmp i) x y)::K,o,s⟩:=by
 intro hok hm0 ρ tmps w b cs hT hH
 simp only[itemsOk_cons,itemOk,codeOk,bat]at hok
 obtain⟨u,e1,c,rfl,hp,hq⟩:=hT.2 i _ hi
 have hev:(⟨tmps,[]⟩:Act).eval (.tmp i)=.bool c:=by
  simp only[Act.eval]
  simp[e1]
 refine .of_steps (.one (step_cond (t:=c) hev)) ?_
 cases c
 ·exact h2 (hq rfl) (by simp only[itemsOk_cons,itemOk,bat];exact⟨hok.1.2,hok.2⟩) hm0 ρ tmps w b cs hT hH
 ·exact h1 (hp rfl) (by simp only[itemsOk_cons,itemOk,bat];exact⟨hok.1.1,hok.2⟩) hm0 ρ tmps w b cs hT hH
def namesV:V→List Nat
 |.a x=>namesA x
 |.tup xs=>xs.flatMap namesA
 |.z=>[]
def autoB (m0:Nat) (keep:List Nat) (c:Cfg):List Nat:=clo c.heap 6 (addAll (List.range m0) (keep.flatMap fun i=>namesV (c.tmps.getD i .z)))
def packA (m0:Nat) (keep ns:List Nat) (c:Cfg):Option Cfg:=packC m0 (autoB m0 keep c) keep ns c
theorem run_pa {Λ:Type}{ti:TypeId→TI}(hm:P.follows .mixedOrders=true) (hti:TIok P ti){tb:Λ→Tbl}{l0:Λ}(htbl:TblOk P (tb l0)) (d:Nat) (u:Bool) (n:Nat) (hints:List Bool) (keep ns:List Nat){t:List V}{h:Heap}{T:List Item}{o:List Prop}{s:List Bool}{F:Ar→Λ→Cfg}
 (he:∀ar l,packA m0 keep ns (exec ar arR ti (tb l) d u n ⟨t,h,T,[],hints⟩)=some (F ar l)) (hq:∀q∈(F arR l0).obs,q) (hr:Run P (tb l0).hc W0 m0 fn R ⟨(F arR l0).tmps,(F arR l0).heap,(F arR l0).todo,[],[]⟩):Run P (tb l0).hc W0 m0 fn R ⟨t,h,T,o,s⟩:=by
 have he:=he arR l0
 unfold packA packC at he
 split at he
 ·rename_i hb
  simp only[bat]at hb
  split at he
  ·rename_i bs hB
   simp only[sie]at he
   rw[←he]at hq hr
   exact Run.exec hm hti htbl d u n hints rfl hq (Run.cut _ keep ns (nodupB_sem hb.2) hb.1 hB hr)
  ·cases he
 ·cases he
end
section
variable {P:Program}{hc:FuncId→Bool}{W0:World}{m0:Nat}{fn:Func}{R:V→Heap→Prop}{ρ:Ren}
def Sw (ρ:Ren) (w:World) (x y:Option (Option Blk)):Prop:=
 x=y∨∃b b2,x=some (some b)∧y=some (some b2)∧b2.ro=b.ro∧b2.g.cells=b.g.cells∧(b2.g=.tail↔b.g=.tail)∧(b2.g=.dead↔b.g=.dead)∧∀r o,BRel ρ b r o w→BRel ρ b2 r o w
theorem Sw.back {w:World}{x:Option (Option Blk)}{b2:Blk}(h:Sw ρ w x (some (some b2))):∃b,x=some (some b)∧b2.ro=b.ro∧b2.g.cells=b.g.cells∧(b2.g=.tail↔b.g=.tail)∧(b2.g=.dead↔b.g=.dead)∧∀r o,BRel ρ b r o w→BRel ρ b2 r o w:=by
 rcases h with h|⟨b,b',h1,h2,h3⟩
 ·exact⟨b2,h,rfl,rfl,Iff.rfl,Iff.rfl,fun _ _ h=>h⟩
 ·cases h2;exact⟨b,h1,h3⟩
theorem Sw.to {w:World}{y:Option (Option Blk)}{b:Blk}(h:Sw ρ w (some (some b)) y):∃b2,y=some (some b2)∧b2.ro=b.ro∧b2.g.cells=b.g.cells∧(b2.g=.tail↔b.g=.tail)∧(b2.g=.dead↔b.g=.dead):=by
 rcases h with h|⟨b',b2,h1,h2,h3,h4,h5,h6,-⟩
 ·exact⟨b,h.symm,rfl,rfl,Iff.rfl,Iff.rfl⟩
 ·cases h1;exact⟨b2,h2,h3,h4,h5,h6⟩
theorem HRel.swap {h h2:Heap}{w:World}(hH:HRel W0 m0 ρ h w) (hs:∀n:Nat,Sw ρ w h[n]? h2[n]?):HRel W0 m0 ρ h2 w:=by
 have bk:∀(n:Nat) (b2:Blk),h2[n]? = some (some b2)→_:=fun n b2 e=>Sw.back (ρ:=ρ) (w:=w) (x:=h[n]?) (b2:=b2) (by rw[←e];exact hs n)
 have fw:∀(n:Nat) (b:Blk),h[n]? = some (some b)→_:=fun n b e=>Sw.to (ρ:=ρ) (w:=w) (y:=h2[n]?) (b:=b) (by rw[←e];exact hs n)
 have hown:∀r,Owned m0 ρ h r→Owned m0 ρ h2 r:=by
  rintro r ⟨n,b,o,h1,h2',h3,h4⟩
  obtain⟨b2,e1,e2,e3,e4,e5⟩:=fw n b h2'
  exact⟨n,b2,o,h1,e1,h3.imp (fun e=>e2.trans e) (fun e=>e5.2 e),h4⟩
 refine⟨hH.os,hH.tape,hH.output,hH.size,fun k hk hno=>hH.frame k hk (fun ho=>hno (hown k ho)),fun k p hk=>?_,fun k b hk hc=>?_,fun k m r o o' b b' hne hk hro hm hnd e1 e2=>?_,fun k r o hk e=>(hH.new k r o hk e).imp id (hown r),hH.low,fun k b hk hg=>?_,fun k b hk hg=>?_,fun k hv=>?_,fun k b hk hp=>?_,hH.zok,fun k b r o i hk hro hp hi=>?_,fun r i v hv hr=>(hH.zold r i v hv hr).imp id (hown r),hH.yok⟩
 ·obtain⟨b,hb⟩:=hH.dom k p hk
  obtain⟨b2,e1,-⟩:=fw k b hb
  exact⟨_,e1⟩
 ·obtain⟨b',h1,h2',h3,h4,h5,h6⟩:=bk k b hk
  obtain⟨r,o,e,hb⟩:=hH.blk k b' h1 (by rw[←h3];exact hc)
  exact⟨r,o,e,h6 r o hb⟩
 ·obtain⟨b1,h1,h2',h3,h4,h5,h6⟩:=bk k b hk
  obtain⟨b2,g1,g2,g3,g4,g5,g6⟩:=bk m b' hm
  exact hH.sep k m r o o' b1 b2 hne h1 (by rw[←h2'];exact hro) g1 (fun e=>hnd (g5.2 e)) e1 e2
 ·obtain⟨b1,h1,h2',h3,h4,h5,h6⟩:=bk k b hk
  rw[h2']
  exact hH.tails k b1 h1 (h4.1 hg)
 ·obtain⟨b1,h1,h2',h3,h4,h5,h6⟩:=bk k b hk
  rw[h2']
  exact hH.deadRo k b1 h1 (h5.1 hg)
 ·obtain⟨e,b,hb⟩:=hH.vd1 k hv
  obtain⟨b2,e1,-⟩:=fw k b hb
  exact⟨e,_,e1⟩
 ·obtain⟨b1,h1,h2',h3,h4,h5,h6⟩:=bk k b hk
  exact hH.vd2 k b1 h1 hp
 ·obtain⟨b1,h1,h2',h3,h4,h5,h6⟩:=bk k b hk
  exact hH.zsep k b1 r o i h1 (by rw[←h2'];exact hro) hp (fun e=>hi (h4.2 e))
end
theorem HEnd.pack {m0:Nat}{v x:V}{lbs:List Blk}{h:Heap}(ns:List Nat) (hnd:nodupB ns=true) (hpre:preB m0 ns 0=true) (hB:packH ns h=some lbs) (hv:mapV (renC ns) x=some v):HEnd m0 v lbs x h:=by
 obtain⟨h1,h2⟩:=BLe.of_pack hB
 refine⟨ns,nodupB_sem hnd,fun j hj=>?_,h2,.of_map hv,h1⟩
 have:=preB_sem hpre j hj
 simpa using this
theorem HEnd.packV {m0:Nat}{v x:V}{lbs:List Blk}{h:Heap}(ns:List Nat) (hnd:nodupB ns=true) (hpre:preB m0 ns 0=true) (hB:packH ns h=some lbs) (hv:VLeK ns x v):HEnd m0 v lbs x h:=by
 obtain⟨h1,h2⟩:=BLe.of_pack hB
 refine⟨ns,nodupB_sem hnd,fun j hj=>?_,h2,hv,h1⟩
 have:=preB_sem hpre j hj
 simpa using this
def CLes:List C→List C→Prop
 | [],[]=>True
 |c::cs,d::ds=>ALe (.one c) (.one d)∧CLes cs ds
 |_,_=>False
theorem CLes.get:∀{cs ds:List C},CLes cs ds→cs.length=ds.length∧∀(j:Nat) y,ds[j]? = some y→∃x,cs[j]? = some x∧ALe (.one x) (.one y)
 | [],[],_=>⟨rfl,fun j y h=>by simp at h⟩
 |c::cs,d::ds,⟨h1,h2⟩=>by
  obtain⟨e1,e2⟩:=CLes.get h2
  refine⟨by simp[e1],fun j y h=>?_⟩
  cases j with
  |zero=>simp at h;subst h;exact⟨c,by simp,h1⟩
  |succ j=>simp at h;simpa using e2 j y h
 | [],_::_,h=>h.elim
 |_::_,[],h=>h.elim
theorem ALe.lst {cs ds:List C}(h:CLes cs ds):ALe (.agg (.lst cs)) (.agg (.lst ds)):=by
 obtain⟨h1,h2⟩:=h.get
 rintro ρ u ⟨arr,rfl,h3,h4⟩
 refine⟨arr,rfl,h3.trans h1,fun j y hy=>?_⟩
 obtain⟨x,e1,e2⟩:=h2 j y hy
 obtain⟨v,e3,e4⟩:=h4 j x e1
 exact⟨v,e3,e2 ρ v e4⟩
end Go.Eng
