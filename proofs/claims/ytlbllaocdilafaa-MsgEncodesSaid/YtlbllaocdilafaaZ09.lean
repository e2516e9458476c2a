import Derived.Test.YtlbllaocdilafaaZ08
set_option linter.unusedSimpArgs false
set_option linter.unusedVariables false
namespace Go.Eng
open Go Go.RowKit
def res1 (ti:TypeId→TI) (tmps:List V) (h:Heap):ResultVar→Option A
 |.tmp t=>Aof (tmps.getD t (.tup []))
 |.cell a t=>if !(ti t).known then none else match Cof (tmps.getD a (.tup []))with
  |some (.ptr b off)=>match perform arR (fun _=>true) 0 h (.load b off (ti t).size (ti t).agg)with
   |some (v,_,[])=>Aof v
   |_=>none
  |_=>none
def resOf (ti:TypeId→TI) (tmps:List V) (h:Heap) (rs:List ResultVar):Option V:=
 match rs.mapM (res1 ti tmps h)with
 |some [x]=>some (.a x)
 |some l=>some (.tup l)
 |none=>none
section
variable {P:Program}{W0:World}{m0:Nat}{ρ:Ren}
theorem res1_sound {ti:TypeId→TI}(hti:TIok P ti){tmps:List V}{arr:Array Value}{h:Heap}{w:World}(hT:TRel ρ tmps arr) (hH:HRel W0 m0 ρ h w){r:ResultVar}{x:A}(hr:res1 ti tmps h r=some x):
 ∃u,(match r with
  |.tmp t=>pure (arr.getD t undef)
  |.cell a t=>do loadVar t (←asAddr (arr.getD a undef)):Sem Value).run P w=.ok u w∧ARel ρ x u:=by
 cases r with
 |tmp t=>exact⟨_,by simp only[srp],Aof_rel (hT.getD t) hr⟩
 |cell a t=>
  simp only[res1]at hr
  split at hr
  ·cases hr
  ·rename_i hk
   split at hr
   ·rename_i b off hc
    have hp:=Cof_rel (hT.getD a) hc
    split at hr
    ·rename_i v h2 hf
     obtain⟨-,v',hrun,hv⟩:=load_sound hti hH (by simpa using hk) hp hf (by simp)
     refine⟨v',?_,Aof_rel hv hr⟩
     obtain⟨r,o,hρ,e⟩:=hp
     simp only[e]at hrun ⊢
     simpa [Instr.loadAt,Instr.sureAddr,asAddr,srb,srp]using hrun
    ·cases hr
   ·cases hr
theorem resList_sound {ti:TypeId→TI}(hti:TIok P ti){tmps:List V}{arr:Array Value}{h:Heap}{w:World}(hT:TRel ρ tmps arr) (hH:HRel W0 m0 ρ h w):∀{rs:List ResultVar}{xs:List A},rs.mapM (res1 ti tmps h)=some xs →
 ∃us:List Value,(rs.mapM (fun r=>(match r with
  |.tmp t=>pure (arr.getD t undef)
  |.cell a t=>do loadVar t (←asAddr (arr.getD a undef)):Sem Value))).run P w=.ok us w∧us.length=xs.length∧∀(j:Nat) (x:A),xs[j]? = some x→∃u:Value,us[j]? = some u∧ARel ρ x u
 | [],xs,hr=>by
   simp at hr
   subst hr
   exact⟨[],by simp[srp],rfl,fun j x hx=>by simp at hx⟩
 |r::rs,xs,hr=>by
  simp only[List.mapM_cons,Option.bind_eq_bind,Option.pure_def]at hr
  cases hx:res1 ti tmps h r with
  |none=>simp[hx]at hr
  |some x=>
   cases hl:rs.mapM (res1 ti tmps h)with
   |none=>simp[hx,hl]at hr
   |some ys=>
    simp[hx,hl]at hr
    subst hr
    obtain⟨u,h1,h2⟩:=res1_sound hti hT hH hx
    obtain⟨us,g1,g2,g3⟩:=resList_sound hti hT hH hl
    refine⟨u::us,?_,by simp[g2],fun j y hy=>?_⟩
    ·simp only[List.mapM_cons,srb]
     rw[h1]
     simp only[Result.andThen_ok]
     rw[g1]
     simp only[Result.andThen_ok,srp]
    ·cases j with
     |zero=>simp at hy;subst hy;exact⟨u,by simp,h2⟩
     |succ j=>obtain⟨u',a1,a2⟩:=g3 j y (by simpa using hy);exact⟨u',by simpa using a1,a2⟩
theorem resOf_sound {ti:TypeId→TI}(hti:TIok P ti){tmps:List V}{arr:Array Value}{h:Heap}{w:World}(hT:TRel ρ tmps arr) (hH:HRel W0 m0 ρ h w){fn:Func}{v:V}(hr:resOf ti tmps h fn.results.toList=some v):
 ∃v',(results fn arr).run P w=.ok v' w∧VRel ρ v v':=by
 have key:∀xs,fn.results.toList.mapM (res1 ti tmps h)=some xs→∃us:List Value,us.length=xs.length∧(∀(j:Nat) (x:A),xs[j]? = some x→∃u:Value,us[j]? = some u∧ARel ρ x u) ∧
  (results fn arr).run P w=.ok (if h:us.toArray.size=1 then us.toArray[0]else .tuple us.toArray) w:=by
  intro xs hxs
  obtain⟨us,g1,g2,g3⟩:=resList_sound hti hT hH hxs
  refine⟨us,g2,g3,?_⟩
  unfold results
  rw[srb,Array.mapM_eq_mapM_toList]
  have:Sem.run P (List.toArray <$> fn.results.toList.mapM (fun r=>(match r with
   |.tmp t=>pure (arr.getD t undef)
   |.cell a t=>do loadVar t (←asAddr (arr.getD a undef)):Sem Value))) w=.ok us.toArray w:=by
   change Sem.run P (List.mapM _ fn.results.toList >>= fun l=>pure l.toArray) w=_
   rw[srb,g1]
   simp[srp]
  change (Sem.run P (List.toArray <$> fn.results.toList.mapM (fun r=>(match r with
   |.tmp t=>pure (arr.getD t undef)
   |.cell a t=>do loadVar t (←asAddr (arr.getD a undef)):Sem Value))) w).andThen _=_
  rw[this]
  simp only[Result.andThen_ok,srp]
 unfold resOf at hr
 split at hr
 ·rename_i x hx
  simp only[sie]at hr
  subst hr
  obtain⟨us,h1,h2,h3⟩:=key _ hx
  obtain⟨u,rfl⟩:∃u,us=[u]:=List.length_eq_one_iff.1 h1
  obtain⟨u',a1,a2⟩:=h2 0 x rfl
  simp at a1
  subst a1
  exact⟨u,by simpa using h3,a2⟩
 ·rename_i l hne hx
  simp only[sie]at hr
  subst hr
  obtain⟨us,h1,h2,h3⟩:=key _ hx
  have:us.length≠1:=by
   intro e
   obtain⟨x,rfl⟩:∃x,l=[x]:=List.length_eq_one_iff.1 (by omega)
   exact hne x rfl
  refine⟨.tuple us.toArray,?_,us.toArray,rfl,by simpa using h1,fun j x hx=>?_⟩
  ·rw[h3,dif_neg (by simpa using this)]
  ·obtain⟨u,a1,a2⟩:=h2 j x hx
   exact⟨u,by simpa using a1,a2⟩
 ·cases hr
structure Agree (m0:Nat) (ρ ρ':Ren):Prop where
 f:∀n p,n<m0→ρ n=some p→ρ' n=some p∧ρ'.room n=ρ.room n
 z:∀r i v,ρ.z r i=some v→ρ'.z r i=some v
 vd:∀n,n<m0→ρ.vd n=true→ρ'.vd n=true
 y:∀r p,ρ.y r=some p→ρ'.y r=some p
 z0:ρ'.z0=ρ.z0
theorem Agree.refl (ρ:Ren):Agree m0 ρ ρ:=⟨fun _ _ _ h=>⟨h,rfl⟩,fun _ _ _ h=>h,fun _ _ h=>h,fun _ _ h=>h,rfl⟩
theorem Agree.trans {a b c:Ren}(h:Agree m0 a b) (k:Agree m0 b c):Agree m0 a c:=⟨fun n p hn hp=>by
 obtain⟨h1,h2⟩:=h.f n p hn hp
 obtain⟨k1,k2⟩:=k.f n p hn h1
 exact⟨k1,k2.trans h2⟩,fun r i v e=>k.z r i v (h.z r i v e),fun n hn e=>k.vd n hn (h.vd n hn e),fun r p e=>k.y r p (h.y r p e),k.z0.trans h.z0⟩
theorem Agree.of_ext {a b:Ren}(h:Ext a b):Agree m0 a b:=⟨fun n p _ hp=>h.f n p hp,h.z,fun n _=>h.vd n,h.y,h.z0⟩
theorem Agree.ext {ρ ρ' ρ'':Ren}(h:Ext ρ ρ') (k:Agree m0 ρ' ρ''):Agree m0 ρ ρ'':=(Agree.of_ext h).trans k
def Fin (P:Program) (W0:World) (m0:Nat) (fn:Func) (R:V→Heap→Prop) (ρ:Ren) (b:Frame) (cs:List Frame) (m:Machine):Prop:=
 ∃ρ' v v' h' w' tmps' todo',Steps P m (lone {b.at ⟨tmps',[]⟩ todo' with mode:=.returning} cs w')∧(results fn tmps').run P w'=.ok v' w'∧VRel ρ' v v'∧HRel W0 m0 ρ' h' w'∧R v h'∧Agree m0 ρ ρ'
def Run (P:Program) (hc:FuncId→Bool) (W0:World) (m0:Nat) (fn:Func) (R:V→Heap→Prop) (c:Cfg):Prop:=
 itemsOk hc c.todo=true→m0≤c.heap.length→∀(ρ:Ren) (tmps:Array Value) (w:World) (b:Frame) (cs:List Frame),TRel ρ c.tmps tmps→HRel W0 m0 ρ c.heap w→Fin P W0 m0 fn R ρ b cs (lone (b.at ⟨tmps,[]⟩ c.todo) cs w)
theorem Fin.of_steps {fn:Func}{R:V→Heap→Prop}{b:Frame}{cs:List Frame} {m m':Machine}(h:Steps P m m') (h':Fin P W0 m0 fn R ρ b cs m'):Fin P W0 m0 fn R ρ b cs m:=
 let ⟨ρ',v,v',h'',w',tmps',todo',a,rest⟩:=h';⟨ρ',v,v',h'',w',tmps',todo',h.trans a,rest⟩
theorem Fin.ext {fn:Func}{R:V→Heap→Prop}{b:Frame}{cs:List Frame}{m:Machine} {ρ':Ren}(h:Ext ρ ρ') (h':Fin P W0 m0 fn R ρ' b cs m):Fin P W0 m0 fn R ρ b cs m:=
 let ⟨ρ'',v,v',h'',w',tmps',todo',a1,a2,a3,a4,a5,a6⟩:=h';⟨ρ'',v,v',h'',w',tmps',todo',a1,a2,a3,a4,a5,a6.ext h⟩
theorem Fin.agree {fn:Func}{R:V→Heap→Prop}{b:Frame}{cs:List Frame}{m:Machine} {ρ':Ren}(h:Agree m0 ρ ρ') (h':Fin P W0 m0 fn R ρ' b cs m):Fin P W0 m0 fn R ρ b cs m:=
 let ⟨ρ'',v,v',h'',w',tmps',todo',a1,a2,a3,a4,a5,a6⟩:=h';⟨ρ'',v,v',h'',w',tmps',todo',a1,a2,a3,a4,a5,h.trans a6⟩
theorem itemsOk_cons {hc:FuncId→Bool}{x:Item}{l:List Item}:itemsOk hc (x::l)=(itemOk hc x&&itemsOk hc l):=rfl
theorem exitTo_ok {hc:FuncId→Bool}{id:Nat}:∀{k k':List Item},exitTo id k=some k'→itemsOk hc k=true→itemsOk hc k'=true
 | [],k',h,_=>by cases h
 |x::k,k',h,hok=>by
  rw[itemsOk_cons,bat]at hok
  unfold exitTo at h
  split at h
  ·rename_i id' k2 e
   simp only[List.cons.injEq]at e
   obtain⟨rfl,rfl⟩:=e
   split at h
   ·simp only[sie]at h;subst h;exact hok.2
   ·exact exitTo_ok h hok.2
  ·rename_i x' k2 _ e
   simp only[List.cons.injEq]at e
   obtain⟨rfl,rfl⟩:=e
   exact exitTo_ok h hok.2
  ·cases h
theorem region_len {ti:TypeId→TI}{tbl:Tbl}{ops:Array Oper}{draw:Bool} {c c':Cfg}(hr:runRegion arR arR ti tbl ops draw c=some c') (hq:∀q∈c'.obs,q):c.heap.length≤c'.heap.length:=by
 unfold runRegion at hr
 split at hr
 ·rename_i r hrun
  simp only[sie]at hr
  subst hr
  cases draw with
  |false=>exact(runOps_len hrun (fun d h hm=>by simp at hm) hq).2
  |true=>
   obtain⟨-,c2,-⟩:=runDraw_chain (l:=ops.toList) (i:=0) (by simp) rfl (runAny_draw hrun) (fun d h hm=>by simp at hm) hq
   simp only at c2 ⊢
   rw[c2]
   exact pad_len _ _ _
 ·cases hr
theorem region_obs {ti:TypeId→TI}{tbl:Tbl}{ops:Array Oper}{draw:Bool} {c c':Cfg}(hr:runRegion arR arR ti tbl ops draw c=some c'):∀q∈c.obs,q∈c'.obs:=by
 unfold runRegion at hr
 split at hr
 ·rename_i r hrun
  simp only[sie]at hr
  subst hr
  cases draw with
  |false=>exact runOps_obs hrun
  |true=>exact runDraw_obs (runAny_draw hrun)
 ·cases hr
theorem step_obs {ti:TypeId→TI}{tbl:Tbl} {c c':Cfg}(h:Go.Eng.step arR arR ti tbl c=some c'):∀q∈c.obs,q∈c'.obs:=by
 unfold Go.Eng.step at h
 split at h
 all_goals first
  |(cases h;done)
  |(simp only[sie]at h;subst h;exact fun q hq=>hq)
  |skip
 ·split at h
  ·simp only[sie]at h;subst h;exact fun q hq=>hq
  ·split at h
   ·simp only[sie]at h;subst h;exact fun q hq=>mcm _ hq
   ·cases h
  ·cases h
 ·split at h
  ·simp only[sie]at h;subst h;exact fun q hq=>hq
  ·cases h
 ·split at h
  ·rename_i c2 hr
   simp only[sie]at h;subst h;exact(region_obs hr:∀q∈c.obs,q∈c2.obs)
  ·cases h
theorem step_run {ti:TypeId→TI}(hm:P.follows .mixedOrders=true) (hti:TIok P ti){tbl:Tbl}(htbl:TblOk P tbl){fn:Func}{R:V→Heap→Prop} {c c':Cfg}(h:Go.Eng.step arR arR ti tbl c=some c') (hq:∀q∈c'.obs,q)
 (hc:Run P tbl.hc W0 m0 fn R c'):Run P tbl.hc W0 m0 fn R c:=by
 obtain⟨tmps0,heap0,todo0,obs0,hints0⟩:=c
 intro hok hm0 ρ tmps w b cs hT hH
 simp only at hok hm0 hT hH ⊢
 unfold Go.Eng.step at h
 simp only at h
 split at h
 all_goals first
  |(cases h;done)
  |skip
 case h_3 k=>
  simp only[sie]at h;subst h
  exact .of_steps (.one step_skip) (hc (by rw[itemsOk_cons,bat]at hok;exact hok.2) hm0 ρ tmps w b cs hT hH)
 case h_4 l k=>
  simp only[sie]at h;subst h
  exact .of_steps (.one step_label) (hc (by rw[itemsOk_cons,bat]at hok;exact hok.2) hm0 ρ tmps w b cs hT hH)
 case h_5 i k=>
  simp only[sie]at h;subst h
  exact .of_steps (.one step_inBlock) (hc (by rw[itemsOk_cons,bat]at hok;exact hok.2) hm0 ρ tmps w b cs hT hH)
 case h_6 x y k=>
  simp only[sie]at h;subst h
  refine .of_steps (.one step_seq) (hc ?_ hm0 ρ tmps w b cs hT hH)
  simp only[itemsOk_cons,itemOk,codeOk,bat]at hok ⊢
  exact⟨hok.1.1,hok.1.2,hok.2⟩
 case h_7 x y z k=>
  simp only[itemsOk_cons,itemOk,codeOk,bat]at hok
  have fin:∀t:Bool,CRel ρ (.lbool t) ((⟨tmps,[]⟩:Act).eval x)→(∀obs hints,Run P tbl.hc W0 m0 fn R ⟨tmps0,heap0,.code (if t then y else z)::k,obs,hints⟩→Fin P W0 m0 fn R ρ b cs (lone (b.at ⟨tmps,[]⟩ (.code (.cond x y z)::k)) cs w)):=by
   intro t ht obs hints hrun
   refine .of_steps (.one (step_cond (t:=t) ht)) (hrun ?_ hm0 ρ tmps w b cs hT hH)
   cases t<;>simp only[itemsOk_cons,itemOk,bat]
   ·exact⟨hok.1.2,hok.2⟩
   ·exact⟨hok.1.1,hok.2⟩
  split at h
  ·rename_i t ht
   simp only[sie]at h;subst h
   exact fin t (Cof_rel (VRel.opnd hT x ⟨tmps,[]⟩ rfl) ht) _ _ hc
  ·rename_i t ht
   split at h
   ·rename_i hh hs
    simp only[sie]at h;subst h
    have he:t=hh:=hq (arR.eqb t hh) (by simp)
    have hr:=Cof_rel (VRel.opnd hT x ⟨tmps,[]⟩ rfl) ht
    refine fin hh ?_ _ _ hc
    rw[←he];exact hr
   ·cases h
  ·cases h
 case h_8 id y k=>
  simp only[sie]at h;subst h
  refine .of_steps (.one step_block) (hc ?_ hm0 ρ tmps w b cs hT hH)
  simp only[itemsOk_cons,itemOk,codeOk,bat]at hok ⊢
  exact⟨hok.1,trivial,hok.2⟩
 case h_9 y k=>
  simp only[sie]at h;subst h
  refine .of_steps (.one step_loop) (hc ?_ hm0 ρ tmps w b cs hT hH)
  simp only[itemsOk_cons,itemOk,codeOk,bat]at hok ⊢
  exact⟨hok.1,hok.1,hok.2⟩
 case h_10 y k=>
  simp only[sie]at h;subst h
  refine .of_steps (.one step_inLoop) (hc ?_ hm0 ρ tmps w b cs hT hH)
  simp only[itemsOk_cons,itemOk,codeOk,bat]at hok ⊢
  exact⟨hok.1,hok.1,hok.2⟩
 case h_11 id k=>
  split at h
  ·rename_i k' hk
   simp only[sie]at h;subst h
   rw[itemsOk_cons,bat]at hok
   exact .of_steps (.one (step_exit hk)) (hc (exitTo_ok hk hok.2) hm0 ρ tmps w b cs hT hH)
  ·cases h
 case h_12 id ops draw k=>
  split at h
  ·rename_i c2 hr
   simp only[sie]at h;subst h
   simp only[itemsOk_cons,itemOk,codeOk,bat]at hok
   have hw:=region_wp (P:=P) (W0:=W0) (m0:=m0) (ρ:=ρ) (id:=id) (a:=⟨tmps,[]⟩) (w:=w) (Q:=fun e a' w'=>e=.normal∧Fin P W0 m0 fn R ρ b cs (lone (b.at a' k) cs w')) hm hti htbl hok.1 hr hq hm0 hT hH rfl
    (fun ρ' a' w' hx h1 h2 h3=>⟨rfl,by
      obtain⟨t',d'⟩:=a'
      simp only at h3
      subst h3
      exact .ext hx (hc hok.2 (Nat.le_trans hm0 (region_len hr hq)) ρ' t' w' b cs h1 h2)⟩)
   obtain⟨e,a',w',⟨rfl,hf⟩,harr⟩:=hw b k cs
   exact .of_steps harr hf
  ·cases h
theorem exec_obs {ti:TypeId→TI}{tbl:Tbl}{d:Nat}{u:Bool}:∀{n:Nat}{c:Cfg},∀q∈c.obs,q∈(exec arR arR ti tbl d u n c).obs
 |0,c,q,h=>h
 |n+1,c,q,h=>by
  unfold exec
  split
  ·exact h
  ·split
   ·exact h
   ·split
    ·exact h
    ·rename_i c' hs
     exact exec_obs q (step_obs hs q h)
theorem exec_run {ti:TypeId→TI}(hm:P.follows .mixedOrders=true) (hti:TIok P ti){tbl:Tbl}(htbl:TblOk P tbl){fn:Func}{R:V→Heap→Prop}(d:Nat) (u:Bool):∀(n:Nat) (c:Cfg),
 (∀q∈(exec arR arR ti tbl d u n c).obs,q)∧Run P tbl.hc W0 m0 fn R (exec arR arR ti tbl d u n c)→Run P tbl.hc W0 m0 fn R c
 |0,c,h=>h.2
 |n+1,c,h=>by
  unfold exec at h
  split at h
  ·exact h.2
  ·split at h
   ·exact h.2
   ·split at h
    ·exact h.2
    ·rename_i c' hs
     refine step_run hm hti htbl hs (fun q hq=>h.1 q (exec_obs q hq)) (exec_run hm hti htbl d u n c' h)
theorem Run.ret {tbl:Tbl}{ti:TypeId→TI}(hti:TIok P ti){fn:Func}{R:V→Heap→Prop}{c:Cfg}{k:List Item}(hk:c.todo=.code .ret::k){v:V}(hr:resOf ti c.tmps c.heap fn.results.toList=some v) (hR:R v c.heap):Run P tbl.hc W0 m0 fn R c:=by
 intro _ _ ρ tmps w b cs hT hH
 obtain⟨v',h1,h2⟩:=resOf_sound hti hT hH hr
 exact⟨ρ,v,v',c.heap,w,tmps,c.todo,.one (by rw[hk];exact step_ret),h1,h2,hH,hR,Agree.refl ρ⟩
theorem Run.fin {tbl:Tbl}{ti:TypeId→TI}(hti:TIok P ti){fn:Func}{R:V→Heap→Prop}{c:Cfg}(hk:c.todo=[]){v:V}(hr:resOf ti c.tmps c.heap fn.results.toList=some v) (hR:R v c.heap):Run P tbl.hc W0 m0 fn R c:=by
 intro _ _ ρ tmps w b cs hT hH
 obtain⟨v',h1,h2⟩:=resOf_sound hti hT hH hr
 exact⟨ρ,v,v',c.heap,w,tmps,c.todo,.one (by rw[hk];exact step_end),h1,h2,hH,hR,Agree.refl ρ⟩
end
def keepT (keep:List Nat):Nat→List V→List V
 |_,[]=>[]
 |i,v::l=>(if keep.contains i then v else .z)::keepT keep (i+1) l
section
variable {P:Program}{W0:World}{m0:Nat}{ρ:Ren}{fn:Func}{R:V→Heap→Prop}{hc:FuncId→Bool}
def pull (ρ:Ren) (ns:List Nat):Ren:=⟨(small ρ ns).f,ρ.z,ρ.z0,(small ρ ns).room,(small ρ ns).vd,ρ.y⟩
theorem pull_at {ρ:Ren}{ns:List Nat}{n i:Nat}(h:ns[i]? = some n):pull ρ ns i=ρ n∧(pull ρ ns).room i=ρ.room n∧(pull ρ ns).vd i=ρ.vd n:=small_at h
theorem pull_some {ρ:Ren}{ns:List Nat}{i:Nat}{p:Nat×Nat}(h:pull ρ ns i=some p):∃n,ns[i]? = some n∧ρ n=some p:=small_some h
theorem CRel.toPull {ρ:Ren}{ns:List Nat}{c:C}{v:Value}(h:CRel (small ρ ns) c v):CRel (pull ρ ns) c v:=h.ext (ρ':=pull ρ ns) ⟨fun n p hp=>⟨hp,rfl⟩,fun r i v e=>e,fun n e=>e,fun _ _ e=>e⟩
theorem renC_pull {ns:List Nat} {c c':C}{v:Value}(h:renC ns c=some c') (hc:CRel ρ c v):CRel (pull ρ ns) c' v:=(renC_rel h hc).toPull
def CLe (ns:List Nat) (x y:C):Prop:=∀(ρ:Ren) u,CRel ρ x u→CRel (pull ρ ns) y u
def VLeK (ns:List Nat) (x v:V):Prop:=∀(ρ:Ren) u,VRel ρ x u→VRel (pull ρ ns) v u
structure GLe (ns:List Nat) (g g':G):Prop where
 cells:g.cells=g'.cells
 tail:g'=.tail↔g=.tail
 dead:g'=.dead↔g=.dead
 at_:∀(j:Nat) y,g'.at j=some y→∃x,g.at j=some x∧CLe ns x y
def BLe (ns:List Nat) (lbs:List Blk) (h:Heap):Prop:=∀(i:Nat) b',lbs[i]? = some b'→∃n b,ns[i]? = some n∧h[n]? = some (some b)∧b.ro=b'.ro∧GLe ns b.g b'.g
theorem HRel.pull {h:Heap}{w:World}(hH:HRel W0 m0 ρ h w){ns:List Nat}{lbs:List Blk}(hnd:ns.Nodup) (hpre:∀j,j<m0→ns[j]? = some j) (hlen:lbs.length=ns.length) (hB:BLe ns lbs h):HRel W0 m0 (Go.Eng.pull ρ ns) (lbs.map some) w:=by
 have hget:∀(i:Nat) b',(lbs.map some)[i]? = some (some b')→∃n b,ns[i]? = some n∧h[n]? = some (some b)∧b.ro=b'.ro∧GLe ns b.g b'.g:=by
  intro i b' hi
  rw[List.getElem?_map,oms]at hi
  obtain⟨b2,hi,e⟩:=hi
  simp only[sie]at e
  subst e
  exact hB i b2 hi
 have hgot:∀(i n:Nat),ns[i]? = some n→∃b b',(lbs.map some)[i]? = some (some b')∧h[n]? = some (some b)∧b.ro=b'.ro∧GLe ns b.g b'.g:=by
  intro i n hi
  have hl:i<lbs.length:=by rw[hlen];exact(ges hi).1
  have e:(lbs.map some)[i]? = some (some lbs[i]):=by simp[hl]
  obtain⟨n',b,e1,e2,e3,e4⟩:=hget i _ e
  rw[hi]at e1
  simp only[sie]at e1
  subst e1
  exact⟨b,_,e,e2,e3,e4⟩
 have hown:∀r,Owned m0 ρ h r→Owned m0 (Go.Eng.pull ρ ns) (lbs.map some) r:=by
  rintro r ⟨n,b,o,h1,h2,h3,h4⟩
  have hn:=hpre n h1
  obtain⟨b1,b',e1,e2,e3,e4⟩:=hgot n n hn
  rw[h2]at e2
  simp only[sie]at e2
  subst e2
  exact⟨n,b',o,h1,e1,by rcases h3 with h3|h3;exact .inl (by rw[←e3];exact h3);exact .inr (e4.dead.2 h3),by rw[(pull_at hn).1];exact h4⟩
 refine⟨hH.os,hH.tape,hH.output,hH.size,fun k hk hno=>hH.frame k hk (fun ho=>hno (hown k ho)),fun i p hp=>?_,fun i b' hi hc=>?_,fun i j r o o' b b' hne hi hro hj hnd' e1 e2=>?_,fun i r o hi e=>?_,fun i r o e=>?_,fun i b' hi hg=>?_,fun i b' hi hg=>?_,fun i hv=>?_,fun i b' hi hp=>?_,hH.zok,fun i b' r o k hi hro hp hk=>?_,fun r i v hv hr=>(hH.zold r i v hv hr).imp id (hown r),hH.yok⟩
 ·obtain⟨n,hn,-⟩:=pull_some hp
  obtain⟨b,b',e,-⟩:=hgot i n hn
  exact⟨b',e⟩
 ·obtain⟨n,b,e1,e2,e3,e4⟩:=hget i b' hi
  obtain⟨r,o,hr,c,ty,fz,q1,q2,q3⟩:=hH.blk n b e2 (by rw[e4.cells];exact hc)
  refine⟨r,o,by rw[(pull_at e1).1];exact hr,c,ty,fz,q1,fun hr=>q2 (by rw[e3];exact hr),fun j y hy=>?_⟩
  obtain⟨x,hx,hle⟩:=e4.at_ j y hy
  obtain⟨u,hu,hcu⟩:=q3 j x hx
  exact⟨u,hu,hle ρ u hcu⟩
 ·obtain⟨n,bn,g1,g2,g3,g4⟩:=hget i b hi
  obtain⟨m,bm,f1,f2,f3,f4⟩:=hget j b' hj
  rw[(pull_at g1).1]at e1
  rw[(pull_at f1).1]at e2
  refine hH.sep n m r o o' bn bm (fun e=>hne ?_) g2 (by rw[g3];exact hro) f2 (fun e=>hnd' (f4.dead.2 e)) e1 e2
  subst e
  exact nodup_idx hnd g1 f1
 ·obtain⟨n,hn,e⟩:=pull_some e
  have hmn:m0≤n:=by
   rcases Nat.lt_or_ge n m0 with hlt|hge
   ·have:=nodup_idx hnd hn (hpre n hlt)
    omega
   ·exact hge
  exact(hH.new n r o hmn e).imp id (hown r)
 ·obtain⟨n,hn,e⟩:=pull_some e
  exact hH.low n r o e
 ·obtain⟨n,b,e1,e2,e3,e4⟩:=hget i b' hi
  obtain⟨t1,t2⟩:=hH.tails n b e2 (e4.tail.1 hg)
  refine⟨by rw[←e3];exact t1,fun r o hp=>?_⟩
  rw[(pull_at e1).1]at hp
  rw[(pull_at e1).2.1]
  exact t2 r o hp
 ·obtain⟨n,b,e1,e2,e3,e4⟩:=hget i b' hi
  rw[←e3]
  exact hH.deadRo n b e2 (e4.dead.1 hg)
 ·have hn:∃n,ns[i]? = some n:=by
   cases e:ns[i]? with
   |some n=>exact⟨n,rfl⟩
   |none=>
    have:(small ρ ns).vd i=true:=hv
    simp only[small,e]at this
    cases this
  obtain⟨n,hn⟩:=hn
  rw[(pull_at hn).2.2]at hv
  obtain⟨b,b',e,-⟩:=hgot i n hn
  exact⟨by rw[(pull_at hn).1];exact(hH.vd1 n hv).1,b',e⟩
 ·obtain⟨n,b,e1,e2,e3,e4⟩:=hget i b' hi
  rw[(pull_at e1).1]at hp
  rw[(pull_at e1).2.2]
  exact hH.vd2 n b e2 hp
 ·obtain⟨n,b,e1,e2,e3,e4⟩:=hget i b' hi
  rw[(pull_at e1).1]at hp
  exact hH.zsep n b r o k e2 (by rw[e3];exact hro) hp (fun hg=>hk (e4.tail.2 hg))
theorem Agree.pull {ns:List Nat}(hpre:∀j,j<m0→ns[j]? = some j):Agree m0 ρ (Go.Eng.pull ρ ns):=
 ⟨fun n p hn hp=>by
  obtain⟨a1,a2,-⟩:=pull_at (ρ:=ρ) (hpre n hn)
  exact⟨by rw[a1];exact hp,a2⟩,fun _ _ _ h=>h,fun n hn hv=>by
  rw[(pull_at (ρ:=ρ) (hpre n hn)).2.2];exact hv,fun _ _ h=>h,rfl⟩
theorem keepT_get {keep:List Nat}:∀{l:List V}{i j:Nat}{x:V},(keepT keep i l)[j]? = some x→∃y,l[j]? = some y∧(x=y∨x=.z)
 | [],i,j,x,h=>by simp[keepT]at h
 |v::l,i,0,x,h=>by
  simp only[keepT,List.getElem?_cons_zero,sie]at h
  refine⟨v,rfl,?_⟩
  split at h<;>simp[←h]
 |v::l,i,j+1,x,h=>by
  simp only[keepT,List.getElem?_cons_succ]at h
  simpa using keepT_get h
theorem keepT_len {keep:List Nat}:∀{l:List V}{i:Nat},(keepT keep i l).length=l.length
 | [],_=>rfl
 |_::l,i=>by simp[keepT,keepT_len (l:=l)]
def packV (ns:List Nat) (v:V):V:=match mapV (renC ns) v with
 |some x=>x
 |none=>.z
def packH (ns:List Nat) (h:Heap):Option (List Blk):=match ns.mapM (blkAt h)with
 |some bs=>bs.mapM (mapB (renC ns))
 |none=>none
def preB:Nat→List Nat→Nat→Bool
 |0,_,_=>true
 |m+1,n::ns,i=>Nat.beq n i&&preB m ns (i+1)
 |_+1,[],_=>false
theorem preB_sem:∀{m:Nat}{ns:List Nat}{i:Nat},preB m ns i=true→∀j,j<m→ns[j]? = some (i+j)
 |m+1,[],i,h,j,hj=>by cases h
 |m+1,n::ns,i,h,j,hj=>by
  simp only[preB,bat]at h
  have:=Nat.eq_of_beq_eq_true h.1
  subst this
  cases j with
  |zero=>rfl
  |succ j=>
   have:=preB_sem h.2 j (by omega)
   rw[List.getElem?_cons_succ,this]
   congr 1;omega
theorem GLe.of_map {ns:List Nat} {g g':G}(h:mapG (renC ns) g=some g'):GLe ns g g':=by
 obtain⟨k1,k2,k3⟩:=mapG_kind h
 refine⟨k1.symm,k2,k3,fun j y hy=>?_⟩
 obtain⟨x,hx,hxy⟩:=(mapG_at h).2 j y hy
 refine⟨x,hx,fun ρ u hu=>?_⟩
 rcases hxy with hxy|⟨rfl,hxy⟩
 ·exact renC_pull hxy hu
 ·exact hxy ρ (Go.Eng.pull ρ ns) _ rfl hu
theorem BLe.of_pack {ns:List Nat}{h:Heap}{bs:List Blk}(hB:packH ns h=some bs):BLe ns bs h∧bs.length=ns.length:=by
 unfold packH at hB
 split at hB
 ·rename_i bb hbb
  refine⟨fun i b' hi=>?_,by rw[mapM_some_length hB,mapM_some_length hbb]⟩
  obtain⟨b,h1,h2⟩:=mapM_back hB i b' hi
  obtain⟨n,h3,h4⟩:=mapM_back hbb i b h1
  refine⟨n,b,h3,blkAt_eq h4,?_,?_⟩
  ·exact(mapB_kind h2).1.symm
  ·simp only[mapB,oms]at h2
   obtain⟨g,hg,rfl⟩:=h2
   exact GLe.of_map hg
 ·cases hB
theorem Run.pack {c:Cfg}(ns:List Nat) (keep:List Nat){bs:List Blk}(hnd:ns.Nodup) (hpre:preB m0 ns 0=true) (hB:packH ns c.heap=some bs)
 (h:Run P hc W0 m0 fn R ⟨(keepT keep 0 c.tmps).map (packV ns),bs.map some,c.todo,[],[]⟩):Run P hc W0 m0 fn R c:=by
 intro hok hm ρ tmps w b cs hTr hH
 have hpre:∀j,j<m0→ns[j]? = some j:=fun j hj=>by rw[preB_sem hpre j hj,Nat.zero_add]
 obtain⟨hB,hlen⟩:=BLe.of_pack hB
 have hm':m0≤ns.length:=by
  rcases Nat.eq_zero_or_pos m0 with h0|h0
  ·omega
  ·have:=(ges (hpre (m0-1) (by omega))).1
   omega
 refine Fin.agree (Agree.pull hpre) (h hok (by simp;omega) (Go.Eng.pull ρ ns) tmps w b cs ⟨by simp[hTr.1,keepT_len],fun j x hx=>?_⟩ (hH.pull hnd hpre hlen hB))
 rw[List.getElem?_map,oms]at hx
 obtain⟨y,hy,rfl⟩:=hx
 obtain⟨y',hy',hyy⟩:=keepT_get hy
 obtain⟨v,h1,h2⟩:=hTr.2 j y' hy'
 refine⟨v,h1,?_⟩
 unfold packV
 split
 ·rename_i x hx
  rcases hyy with rfl|rfl
  ·exact mapV_rel (ρ:=ρ) (ρ':=Go.Eng.pull ρ ns) rfl (fun c c' v hcc hv=>renC_pull hcc hv) hx h2
  ·simp only[mapV,sie]at hx
   subst hx;exact True.intro
 ·exact True.intro
theorem Run.same {t:List V}{h:Heap}{T:List Item} {o o':List Prop} {s s':List Bool}(hr:Run P hc W0 m0 fn R ⟨t,h,T,o,s⟩):Run P hc W0 m0 fn R ⟨t,h,T,o',s'⟩:=hr
theorem Run.loop {ι:Type}(S:ι→List V×Heap) (μ:ι→Nat){c:Code}{k:List Item}(i0:ι)
 (round:∀i,(∀j,μ j<μ i→∀o s,Run P hc W0 m0 fn R ⟨(S j).1,(S j).2,.inLoop c::k,o,s⟩)→Run P hc W0 m0 fn R ⟨(S i).1,(S i).2,.code c :: .inLoop c::k,[],[]⟩){o:List Prop}{s:List Bool}:
 Run P hc W0 m0 fn R ⟨(S i0).1,(S i0).2,.code (.loop c)::k,o,s⟩:=by
 have body:∀n i,μ i=n→Run P hc W0 m0 fn R ⟨(S i).1,(S i).2,.code c :: .inLoop c::k,[],[]⟩:=by
  intro n
  induction n using Nat.strongRecOn with
  |_ n ih=>
   intro i hi
   refine round i fun j hj o s=>?_
   intro hok hm ρ tmps w b cs hT hH
   refine .of_steps (.one step_inLoop) (ih (μ j) (by omega) j rfl ?_ hm ρ tmps w b cs hT hH)
   simp only[itemsOk_cons,itemOk,bat]at hok ⊢
   exact⟨hok.1,hok.1,hok.2⟩
 intro hok hm ρ tmps w b cs hT hH
 refine .of_steps (.one step_loop) (body _ i0 rfl ?_ hm ρ tmps w b cs hT hH)
 simp only[itemsOk_cons,itemOk,codeOk,bat]at hok ⊢
 exact⟨hok.1,hok.1,hok.2⟩
theorem Run.exec {ti:TypeId→TI}(hm:P.follows .mixedOrders=true) (hti:TIok P ti){tbl:Tbl}(htbl:TblOk P tbl) (d:Nat) (u:Bool) (n:Nat) (hints:List Bool){t:List V}{h:Heap}{T:List Item}{o:List Prop}{s:List Bool} {c':Cfg}
 (he:exec arR arR ti tbl d u n ⟨t,h,T,[],hints⟩=c') (hq:∀q∈c'.obs,q) (hr:Run P tbl.hc W0 m0 fn R c'):Run P tbl.hc W0 m0 fn R ⟨t,h,T,o,s⟩:=by
 subst he
 exact exec_run hm hti htbl d u n ⟨t,h,T,[],hints⟩ ⟨hq,hr⟩
def VLe (x v:V):Prop:=∀(ρ:Ren) u,VRel ρ x u→VRel (Ren.none ρ.z) v u
def ALe (x v:A):Prop:=∀(ρ:Ren) u,ARel ρ x u→ARel (Ren.none ρ.z) v u
theorem ALe.dat {s:Sh}{xs ys:List D}{tok:Option Nat}(h:xs=ys):ALe (.one (.dat s xs tok)) (.one (.dat s ys none)):=by
 subst h
 intro ρ u hu
 rcases hu with hu|⟨r,o,len,cap,e1,e2,e3,e4,-⟩
 ·exact .inl hu
 ·exact .inr ⟨r,o,len,cap,e1,e2,e3,e4,fun t ht=>by cases ht⟩
theorem ALe.nsl {s:Sh}:ALe (.one .nsl) (.one (.dat s [] none)):=fun ρ u hu=>.inl ⟨hu,rfl⟩
theorem ALe.str {a b:ByteArray}(h:a=b):ALe (.one (.str a)) (.one (.str b)):=by
 intro ρ u hu;subst h;exact hu
theorem VLe.a {x y:A}(h:ALe x y):VLe (.a x) (.a y):=h
theorem VLe.tup2 {a b a' b':A}(h1:ALe a a') (h2:ALe b b'):VLe (.tup [a,b]) (.tup [a',b']):=by
 rintro ρ u ⟨arr,e,hs,h⟩
 refine⟨arr,e,hs,fun j x hx=>?_⟩
 match j with
 |0=>simp at hx;subst hx;obtain⟨v,a1,a2⟩:=h 0 a rfl;exact⟨v,a1,h1 ρ _ a2⟩
 |1=>simp at hx;subst hx;obtain⟨v,a1,a2⟩:=h 1 b rfl;exact⟨v,a1,h2 ρ _ a2⟩
 |j+2=>simp at hx
theorem VLe.tup3 {a b c a' b' c':A}(h1:ALe a a') (h2:ALe b b') (h3:ALe c c'):VLe (.tup [a,b,c]) (.tup [a',b',c']):=by
 rintro ρ u ⟨arr,e,hs,h⟩
 refine⟨arr,e,hs,fun j x hx=>?_⟩
 match j with
 |0=>simp at hx;subst hx;obtain⟨v,a1,a2⟩:=h 0 a rfl;exact⟨v,a1,h1 ρ _ a2⟩
 |1=>simp at hx;subst hx;obtain⟨v,a1,a2⟩:=h 1 b rfl;exact⟨v,a1,h2 ρ _ a2⟩
 |2=>simp at hx;subst hx;obtain⟨v,a1,a2⟩:=h 2 c rfl;exact⟨v,a1,h3 ρ _ a2⟩
 |j+3=>simp at hx
theorem ALe.int {k:IntKind}{n m:Int}(h:n=m):ALe (.one (.int k n)) (.one (.int k m)):=by
 intro ρ u hu;subst h;exact hu
theorem ALe.lit {k:IntKind}{n m:Int}(h:n=m):ALe (.one (.lit k n)) (.one (.int k m)):=by
 intro ρ u hu;subst h;exact hu
theorem ALe.bool {a b:Bool}(h:a=b):ALe (.one (.bool a)) (.one (.bool b)):=by
 intro ρ u hu;subst h;exact hu
theorem ALe.lbool {a b:Bool}(h:a=b):ALe (.one (.lbool a)) (.one (.bool b)):=by
 intro ρ u hu;subst h;exact hu
theorem ALe.ints {k:IntKind}{n:N}{f g:Nat→Int}(h:∀j,j<n.val→f j=g j):ALe (.agg (.ints k n f)) (.agg (.ints k n g)):=by
 rintro ρ u ⟨arr,e,h1,h2⟩
 refine⟨arr,e,h1,fun j x hx=>?_⟩
 simp only[G.at]at hx
 by_cases hj:j<n.val
 ·rw[if_pos hj]at hx
  simp only[sie]at hx
  subst hx
  obtain⟨v,a1,a2⟩:=h2 j (.int k (f j)) (by simp only[G.at];rw[if_pos hj])
  exact⟨v,a1,by rw[←h j hj];exact a2⟩
 ·rw[if_neg hj]at hx;cases hx
theorem CallOk.of_run {f:FuncId}{body:Code}(hf:P.funcs[f]? = some fn) (hb:fn.body=some body) (hname:(fn.name == "runtime.NumGoroutine")=false) (hok:codeOk hc body=true){s:ESpec}
 (h:∀as v ps,s as=some (v,ps)→(∀p∈ps,p)→∀w,Run P hc w 0 fn (fun x _=>VLe x v) ⟨as.map V.a++List.replicate (fn.ntmps-as.length) (.tup []),[],[.code body],[],[]⟩):CallOk P f s:=by
 intro as v ps hs hp z args w hz ha o a K Q hK
 have hcf:(callFunc f args).run P w=.ok (.enter f args) w:=by
  have h1:fn.name≠"runtime.NumGoroutine":=by simpa using hname
  simp[callFunc,program,srb,Sem.run,hf,h1,hb,srp]
 rw[hcf,Oper.upon_enter]
 intro cs
 let b:Frame:={ (default:Frame)with fn:=f,kind:=.normal}
 have henter:Frame.enter P f args .normal=b.at {tmps:=args++Array.replicate (fn.ntmps-args.size) undef,defers:=[] } [.code body]:=by
  simp[Frame.enter,Frame.at,hf,hb,b]
 have hT:TRel (Ren.none z) (as.map V.a++List.replicate (fn.ntmps-as.length) (.tup [])) (args++Array.replicate (fn.ntmps-args.size) undef):=by
  refine⟨by simp[ha.1],fun j x hx=>?_⟩
  by_cases hj:j<as.length
  ·rw[List.getElem?_append_left (by simpa using hj)]at hx
   simp only[List.getElem?_map,oms]at hx
   obtain⟨y,hy,rfl⟩:=hx
   obtain⟨u,h1,h2⟩:=ha.2 j y hy
   exact⟨u,by rw[Array.getElem?_append_left (by rw[ha.1];exact hj)];exact h1,h2⟩
  ·rw[List.getElem?_append_right (by simpa using hj)]at hx
   have hx':=List.mem_of_getElem? hx
   have hlt:=(ges hx).1
   simp at hlt
   obtain rfl:x=.tup []:=(List.mem_replicate.1 hx').2
   refine⟨undef,?_,undef_rel⟩
   rw[Array.getElem?_append_right (by rw[ha.1];omega),Array.getElem?_replicate,if_pos (by rw[ha.1];omega)]
 have hH:HRel w 0 (Ren.none z) [] w:=⟨rfl,rfl,rfl,Nat.le_refl _,fun _ _ _=>rfl,fun n p h=>(by cases h),fun n b h=>(by simp at h),fun n m r o o' b b' _ h=>(by simp at h),fun n r o _ h=>(by cases h),fun n r o h=>(by cases h),fun n b h=>(by simp at h),fun n b h=>(by simp at h),fun n h=>(by cases h),fun n b h=>(by simp at h),hz,fun n b r o i h=>(by simp at h),fun r i v h _=>.inl h,fun _ _ _ h=>(by cases h)⟩
 obtain⟨ρ',x,v',h',w',tmps',todo',hst,hres,hv,hh,hR,hag⟩:=h as v ps hs hp w (by simp[itemsOk,itemOk,hok]) (Nat.zero_le _) _ _ w b cs hT hH
 have nown:∀r,¬Owned 0 ρ' h' r:=by
  rintro r ⟨n,b,o,h1,-⟩
  omega
 refine⟨.returned v',w',{b.at ⟨tmps',[]⟩ todo' with mode:=.returning},?_,by rw[henter];exact hst,rfl,rfl,rfl,rfl,fn,hf,hres⟩
 refine hK ρ'.z v' w' hag.z (fun r i u hu=>?_) hh.zok (hR ρ' v' hv) ⟨hh.os,hh.tape,hh.output,hh.size,fun k hk=>hh.frame k hk (nown k)⟩
 rcases Nat.lt_or_ge r w.heap.size with hr|hr
 ·rcases hh.zold r i u hu hr with h1|h1
  ·rw[hag.z0]at h1;exact .inl h1
  ·exact absurd h1 (nown r)
 ·exact .inr hr
def evalFn (ar:Ar) (ti:TypeId→TI) (tbl:Tbl) (n:Nat) (hints:List Bool) (rs:List ResultVar) (t:List V) (h:Heap) (T:List Item):Option (V×List Prop):=
 let c:=exec ar arR ti tbl 0 true n ⟨t,h,T,[],hints⟩
 match c.todo with
 |.code .ret::_ | []=>match resOf ti c.tmps c.heap rs with
  |some v=>some (v,c.obs)
  |none=>none
 |_=>none
theorem Run.evalFn {ti:TypeId→TI}(hm:P.follows .mixedOrders=true) (hti:TIok P ti){tbl:Tbl}(htbl:TblOk P tbl){n:Nat}{hints:List Bool}{t:List V}{h:Heap}{T:List Item}{o:List Prop}{s:List Bool}{v:V}{ps:List Prop}
 (he:Go.Eng.evalFn arR ti tbl n hints fn.results.toList t h T=some (v,ps)) (hq:∀q∈ps,q) (hR:∀h',R v h'):Run P tbl.hc W0 m0 fn R ⟨t,h,T,o,s⟩:=by
 have main:Run P tbl.hc W0 m0 fn R ⟨t,h,T,[],hints⟩:=by
  unfold Go.Eng.evalFn at he
  simp only at he
  split at he
  ·rename_i k hk
   split at he
   ·rename_i v' hv
    simp only[sie,po]at he
    obtain⟨rfl,rfl⟩:=he
    exact exec_run hm hti htbl 0 true n _ ⟨hq,Run.ret hti hk hv (hR _)⟩
   ·cases he
  ·rename_i hk
   split at he
   ·rename_i v' hv
    simp only[sie,po]at he
    obtain⟨rfl,rfl⟩:=he
    exact exec_run hm hti htbl 0 true n _ ⟨hq,Run.fin hti hk hv (hR _)⟩
   ·cases he
  ·cases he
 exact main
theorem CallOk.eval {Λ:Type}{ti:TypeId→TI}(hm:P.follows .mixedOrders=true) (hti:TIok P ti){tb:Λ→Tbl}{l0:Λ}(htbl:TblOk P (tb l0)){f:FuncId}{body:Code}(hf:P.funcs[f]? = some fn) (hb:fn.body=some body) (hname:(fn.name == "runtime.NumGoroutine")=false) (hok:codeOk (tb l0).hc body=true){s:ESpec}
 (h:∀as v ps,s as=some (v,ps)→(∀p∈ps,p)→∃n hints,∃F:Ar→Λ→V×List Prop,(∀ar l,Go.Eng.evalFn ar ti (tb l) n hints fn.results.toList (as.map V.a++List.replicate (fn.ntmps-as.length) (.tup [])) [] [.code body]=some (F ar l)) ∧
   (∀q∈(F arR l0).2,q)∧VLe (F arR l0).1 v):CallOk P f s:=by
 refine .of_run hf hb hname hok fun as v ps hs hp w=>?_
 obtain⟨n,hints,F,h1,h2,h3⟩:=h as v ps hs hp
 exact Run.evalFn hm hti htbl (h1 arR l0) h2 (fun _=>h3)
def HEnd (m0:Nat) (v:V) (lbs:List Blk) (x:V) (h:Heap):Prop:=∃ns:List Nat,ns.Nodup∧(∀j,j<m0→ns[j]? = some j)∧lbs.length=ns.length∧VLeK ns x v∧BLe ns lbs h
theorem CLe.of {ns:List Nat}{x y:C}(h:renC ns x=some y):CLe ns x y:=fun ρ u hu=>renC_pull h hu
theorem GLe.ints {ns:List Nat}{kd:IntKind}{n:N}{f g:Nat→Int}(h:∀j,j<n.val→f j=g j):GLe ns (.ints kd n f) (.ints kd n g):=by
 refine⟨rfl,by simp,by simp,fun j y hy=>?_⟩
 simp only[G.at]at hy ⊢
 by_cases hj:j<n.val
 ·rw[if_pos hj]at hy ⊢
  simp only[sie]at hy
  subst hy
  exact⟨_,rfl,fun ρ u hu=>by rw[←h j hj];exact hu⟩
 ·rw[if_neg hj]at hy;cases hy
theorem VLeK.of {ns:List Nat}{x v:V}(h:VLe x v):VLeK ns x v:=fun ρ u hu=>by
 have hx:Sub (Ren.none ρ.z) (pull ρ ns):=⟨fun n p e=>(by cases e),fun _ _ _ e=>e,fun n e=>(by cases e),fun _ _ e=>(by cases e)⟩
 exact(h ρ u hu).ext hx
theorem VLeK.of_map {ns:List Nat}{x v:V}(h:mapV (renC ns) x=some v):VLeK ns x v:=fun ρ u hu=>mapV_rel (ρ:=ρ) (ρ':=Go.Eng.pull ρ ns) rfl (fun c c' v hcc hv=>renC_pull hcc hv) h hu
theorem HOk.of_run {f:FuncId}{body:Code}(hf:P.funcs[f]? = some fn) (hb:fn.body=some body) (hname:(fn.name == "runtime.NumGoroutine")=false) (hok:codeOk hc body=true){s:HSpec}
 (h:∀las lbs v lbs' ps,s las lbs=some (v,lbs',ps)→(∀p∈ps,p)→∀w,Run P hc w lbs.length fn (HEnd lbs.length v lbs') ⟨las.map V.a++List.replicate (fn.ntmps-las.length) (.tup []),lbs.map some,[.code body],[],[]⟩):HOk P f s:=by
 intro as lbs v lbs' ps hs hp ρ args w ha hH o a K Q hK
 have hrun:=h as lbs v lbs' ps hs hp
 have hcf:(callFunc f args).run P w=.ok (.enter f args) w:=by
  have h1:fn.name≠"runtime.NumGoroutine":=by simpa using hname
  simp[callFunc,program,srb,Sem.run,hf,h1,hb,srp]
 rw[hcf,Oper.upon_enter]
 intro cs
 let b:Frame:={ (default:Frame)with fn:=f,kind:=.normal}
 have henter:Frame.enter P f args .normal=b.at {tmps:=args++Array.replicate (fn.ntmps-args.size) undef,defers:=[] } [.code body]:=by
  simp[Frame.enter,Frame.at,hf,hb,b]
 have hT:TRel ρ (as.map V.a++List.replicate (fn.ntmps-as.length) (.tup [])) (args++Array.replicate (fn.ntmps-args.size) undef):=by
  refine⟨by simp[ha.1],fun j x hx=>?_⟩
  by_cases hj:j<as.length
  ·rw[List.getElem?_append_left (by simpa using hj)]at hx
   simp only[List.getElem?_map,oms]at hx
   obtain⟨y,hy,rfl⟩:=hx
   obtain⟨u,h1,h2⟩:=ha.2 j y hy
   exact⟨u,by rw[Array.getElem?_append_left (by rw[ha.1];exact hj)];exact h1,h2⟩
  ·rw[List.getElem?_append_right (by simpa using hj)]at hx
   have hx':=List.mem_of_getElem? hx
   have hlt:=(ges hx).1
   simp at hlt
   obtain rfl:x=.tup []:=(List.mem_replicate.1 hx').2
   refine⟨undef,?_,undef_rel⟩
   rw[Array.getElem?_append_right (by rw[ha.1];omega),Array.getElem?_replicate,if_pos (by rw[ha.1];omega)]
 obtain⟨ρ',x,v',h',w',tmps',todo',hst,hres,hv,hh,⟨ns,hnd,hpre,hlen,hR1,hR2⟩,hag⟩:=hrun w (by simp[itemsOk,itemOk,hok]) (by simp) ρ _ w b cs hT hH
 refine⟨.returned v',w',{b.at ⟨tmps',[]⟩ todo' with mode:=.returning},?_,by rw[henter];exact hst,rfl,rfl,rfl,rfl,fn,hf,hres⟩
 have hag2:Agree lbs.length ρ (Go.Eng.pull ρ' ns):=hag.trans (Agree.pull hpre)
 refine hK (Go.Eng.pull ρ' ns) v' w' ⟨⟨fun n p hn=>?_,hag2.z,fun n hn=>?_,hag2.y⟩,hag2.z0⟩ (hR1 ρ' v' hv) (hh.pull hnd hpre hlen hR2)
 ·obtain⟨bb,hb'⟩:=hH.dom n p hn
  have:=(ges hb').1
  exact hag2.f n p (by simpa using this) hn
 ·obtain⟨-,bb,hb'⟩:=hH.vd1 n hn
  have:=(ges hb').1
  exact hag2.vd n (by simpa using this) hn
end
def cOf:Value→C
 |.int k n=>.lit k n
 |.bool b=>.lbool b
 |.string s=>.str s
 |.pointer none=>.nil
 |.slice none 0 0=>.nsl
 |v=>.raw v
theorem cOf_rel {ρ:Ren}{v:Value}(h:one1 v=true):CRel ρ (cOf v) v:=by
 unfold cOf
 split<;>simp_all[CRel]
def mkTD:TypeDesc→TD
 |.int k=>.int k
 |.slice e=>.slice e
 |.array n e=>.arr n e
 |.struct fs=>.strct (fs.toList.map fun f=>(f.offset,f.type))
 |.bool=>.bool
 |.string=>.str
 |.pointer e=>.ptr e
 |_=>.other
theorem mkTD_rel (d:TypeDesc):TDRel d (mkTD d):=by
 cases d<;>simp[TDRel,mkTD]
def isZ (k:IntKind):Value→Bool
 |.int k' 0=>kindEq k k'
 |_=>false
def mkG (arr:Bool) (cs:Array Value):G:=
 match arr,cs.toList with
 |true,.int k n::l=>if(Value.int k n::l).all (isZ k)then .ints k (.lit cs.size) (fun _=>0)else .lst (cs.toList.map cOf)
 |_,_=>.lst (cs.toList.map cOf)
theorem isZ_eq {k:IntKind}{v:Value}(h:isZ k v=true):v=.int k 0:=by
 unfold isZ at h
 split at h
 ·rw[kindEq_eq h]
 ·cases h
theorem mkG_rel {ρ:Ren}{arr:Bool}{cs:Array Value}(h:cs.toList.all one1=true):GRel ρ (mkG arr cs) cs:=by
 have key:GRel ρ (.lst (cs.toList.map cOf)) cs:=by
  refine⟨by simp[G.len],fun j x hx=>?_⟩
  simp only[G.at,List.getElem?_map,oms]at hx
  obtain⟨v,hv,rfl⟩:=hx
  exact⟨v,by simpa using hv,cOf_rel (List.all_eq_true.1 h v (List.mem_of_getElem? hv))⟩
 unfold mkG
 split
 ·rename_i k n l e
  split
  ·rename_i hz
   rw[←e]at hz
   refine⟨rfl,fun j x hx=>?_⟩
   simp only[G.at]at hx
   by_cases hj:j<cs.size
   ·rw[if_pos (show j<(N.lit cs.size).val from hj)]at hx
    simp only[sie]at hx
    subst hx
    refine⟨cs[j],Array.getElem?_eq_getElem hj,?_⟩
    rw[isZ_eq (List.all_eq_true.1 hz cs[j] (by simp))]
    rfl
   ·rw[if_neg (show ¬j<(N.lit cs.size).val from hj)]at hx;cases hx
  ·exact key
 ·exact key
def zOk:Value→Bool
 |.agg cs=>cs.toList.all one1
 |.tuple _=>false
 |_=>true
def isArr:TypeDesc→Bool
 |.array _ _=>true
 |_=>false
def mkZero (d:TypeDesc):Value→A
 |.agg cs=>.agg (mkG (isArr d) cs)
 |v=>.one (cOf v)
theorem mkZero_rel {ρ:Ren}{d:TypeDesc}{v:Value}(h:zOk v=true):ARel ρ (mkZero d v) v:=by
 unfold mkZero
 split
 ·rename_i cs;exact⟨cs,rfl,mkG_rel h⟩
 ·rename_i hne
  refine cOf_rel ?_
  cases v<;>simp_all[zOk,one1]
def fieldsOk (P:Program):TypeDesc→Bool
 |.struct fs=>fs.all fun f=>(P.info? f.type).isSome
 |_=>true
def mkTI (P:Program) (t:TypeId):TI:=
 match P.info? t,P.underlying t with
 |some i,some d=>
  match i.zero with
  |some v=>{known:=zOk v&&fieldsOk P d&&Nat.beq v.cells.size i.size,td:=mkTD d,size:=i.size,agg:=aggOf d,zero:=some (mkZero d v),plain:=!(P.eqGuardType P.depth t),bytes:=i.bytes,sh:=none}
  |none=>{known:=fieldsOk P d,td:=mkTD d,size:=i.size,agg:=aggOf d,zero:=none,plain:=!(P.eqGuardType P.depth t),bytes:=i.bytes,sh:=none}
 |_,_=>{known:=false,td:=.other,size:=0,agg:=false,zero:=none,plain:=false,bytes:=0,sh:=none}
theorem mkTI_ok {P:Program}{t:TypeId}(h:(mkTI P t).known=true):TOk P t (mkTI P t):=by
 unfold mkTI at h ⊢
 split at h
 ·rename_i i d hi hd
  have hf:fieldsOk P d=true→∀fs,P.underlying t=some (.struct fs)→∀f∈fs,∃i,P.info? f.type=some i:=by
   intro hf fs hds f hfm
   rw[hd]at hds
   simp only[sie]at hds
   subst hds
   simp only[fieldsOk,Array.all_eq_true_iff_forall_mem]at hf
   exact Option.isSome_iff_exists.1 (hf f hfm)
  split at h
  ·rename_i v hv
   simp only[bat]at h
   refine⟨⟨i,hi,rfl,rfl,fun z hz=>⟨v,hv,?_⟩⟩,⟨d,hd,mkTD_rel d,rfl⟩,hf h.1.2,fun hp=>by simpa using hp,fun i' v' hi' hv'=>by
    rw[hi]at hi'
    simp only[sie]at hi'
    subst hi'
    rw[hv]at hv'
    simp only[sie]at hv'
    subst hv'
    exact Nat.eq_of_beq_eq_true h.2,fun h=>absurd h Bool.false_ne_true⟩
   simp only[sie]at hz
   rw[←hz];exact mkZero_rel h.1.1
  ·rename_i hv
   exact⟨⟨i,hi,rfl,rfl,fun z hz=>by cases hz⟩,⟨d,hd,mkTD_rel d,rfl⟩,hf h,fun hp=>by simpa using hp,fun i' v' hi' hv'=>by
    rw[hi]at hi'
    simp only[sie]at hi'
    subst hi'
    rw[hv]at hv';exact absurd hv' (by simp),fun h=>absurd h Bool.false_ne_true⟩
 ·cases h
def noTI:TI:={known:=false,td:=.other,size:=0,agg:=false,zero:=none,plain:=false,bytes:=0,sh:=none}
def tiOf (L:List (Nat×TI)) (t:Nat):TI:=
 match L.lookup t with
 |some x=>x
 |none=>noTI
theorem lookup_mem' {α:Type}{t:Nat}{x:α}:∀{L:List (Nat×α)},L.lookup t=some x→(t,x)∈L
 | [],e=>by cases e
 |(y,z)::l,e=>by
  simp only[List.lookup]at e
  split at e
  ·rename_i hb
   simp only[sie]at e
   have:t=y:=by simpa using hb
   simp[this,e]
  ·exact mcm _ (lookup_mem' e)
theorem tiOf_ok {P:Program}{L:List (Nat×TI)}(h:∀p∈L,TOk P p.1 p.2):TIok P (tiOf L):=by
 unfold TIok
 intro t hk
 unfold tiOf at hk ⊢
 split at hk
 ·rename_i x hx
  exact h _ (lookup_mem' hx)
 ·cases hk
theorem TOk.withSh {P:Program}{t:TypeId}{x:TI}(h:TOk P t x) (s:Option Sh):TOk P t {x with sh:=s}:=⟨h.info,h.und,h.fields,h.plain,h.zsz,h.eqs⟩
def tiOf2 (L:List (Nat×TI)) (S:List (Nat×Sh)) (t:Nat):TI:={tiOf L t with sh:=S.lookup t}
theorem tiOf2_ok {P:Program}{L:List (Nat×TI)}{S:List (Nat×Sh)}(h:∀p∈L,TOk P p.1 p.2):TIok P (tiOf2 L S):=fun t hk=>(tiOf_ok h t hk).withSh _
def eqsB (P:Program) (t:TypeId):Bool:=!P.stoodInHeld t&&(P.fieldsOf t).all fun f=>f.name != "_"
def tiOf3 (L:List (Nat×TI)) (S:List (Nat×Sh)) (E:List Nat) (t:Nat):TI:={tiOf2 L S t with eqs:=E.contains t}
theorem tiOf3_ok {P:Program}{L:List (Nat×TI)}{S:List (Nat×Sh)}{E:List Nat}(h:∀p∈L,TOk P p.1 p.2) (he:∀t∈E,eqsB P t=true):TIok P (tiOf3 L S E):=fun t hk=>by
 have h2:=tiOf2_ok (S:=S) h t hk
 refine⟨h2.info,h2.und,h2.fields,h2.plain,h2.zsz,fun hc=>?_⟩
 have:=he t (by simpa [tiOf3]using hc)
 unfold eqsB at this
 simp only[bat,Bool.not_eq_true',Array.all_eq_true_iff_forall_mem]at this
 exact⟨this.1,fun f hf=>by simpa using this.2 f hf⟩
def zCell:C→C→Bool
 |.lit k n,.int k' m=>kindEq k k'&&decide (n=m)
 |.lbool a,.bool b=>decide (a=b)
 |.str a,.str b=>decide (a=b)
 |.nsl,.dat _ xs none=>xs.isEmpty
 |.nsl,.nsl=>true
 |.lit k n,.lit k' m=>kindEq k k'&&decide (n=m)
 |.lbool a,.lbool b=>decide (a=b)
 |_,_=>false
theorem zCell_rel {ρ:Ren} {c c':C}{v:Value}(h:zCell c c'=true) (hc:CRel ρ c v):CRel ρ c' v:=by
 unfold zCell at h
 split at h
 ·simp only[bat,decide_eq_true_eq]at h
  have:=kindEq_eq h.1
  obtain⟨-,h⟩:=h
  subst this h;exact hc
 ·simp only[decide_eq_true_eq]at h
  subst h;exact hc
 ·simp only[decide_eq_true_eq]at h
  subst h;exact hc
 ·simp only[List.isEmpty_iff]at h
  exact .inl ⟨hc,h⟩
 ·exact hc
 ·simp only[bat,decide_eq_true_eq]at h
  have:=kindEq_eq h.1
  obtain⟨-,h⟩:=h
  subst this h;exact hc
 ·simp only[decide_eq_true_eq]at h
  subst h;exact hc
 ·cases h
def zCells:List C→List C→Bool
 | [],[]=>true
 |a::l,b::l'=>zCell a b&&zCells l l'
 |_,_=>false
theorem zCells_rel:∀{l l':List C},zCells l l'=true→l'.length=l.length∧∀(j:Nat) x',l'[j]? = some x'→∃x,l[j]? = some x∧zCell x x'=true:=by
 intro l
 induction l with
 |nil=>
  intro l' h
  cases l' with
  |nil=>exact⟨rfl,fun j x' hx=>by simp at hx⟩
  |cons b l'=>cases h
 |cons a l ih=>
  intro l' h
  cases l' with
  |nil=>cases h
  |cons b l'=>
   simp only[zCells,bat]at h
   obtain⟨h1,h2⟩:=ih h.2
   refine⟨by simp[h1],fun j x' hx=>?_⟩
   cases j with
   |zero=>
    simp at hx
    subst hx
    exact⟨a,rfl,h.1⟩
   |succ j=>exact h2 j x' (by simpa using hx)
def zOkB (x:TI) (ps:List Pt):Bool:=match x.zero with
 |some (.agg (.lst l))=>zCells l (cellsP arR ps)
 |_=>false
def tiOf4 (L:List (Nat×TI)) (S:List (Nat×Sh)) (E:List Nat) (Z:List (Nat×List Pt)) (t:Nat):TI:=match Z.lookup t with
 |some s=>{tiOf3 L S E t with zero:=some (.agg (.prt s)) }
 |none=>tiOf3 L S E t
theorem tiOf4_ok {P:Program}{L:List (Nat×TI)}{S:List (Nat×Sh)}{E:List Nat}{Z:List (Nat×List Pt)}(h:∀p∈L,TOk P p.1 p.2) (he:∀t∈E,eqsB P t=true) (hz:∀p∈Z,zOkB (tiOf3 L S E p.1) p.2=true):TIok P (tiOf4 L S E Z):=fun t hk=>by
 unfold tiOf4 at hk ⊢
 split at hk
 ·rename_i s hs
  have h3:=tiOf3_ok (S:=S) h he t hk
  refine⟨?_,h3.und,h3.fields,h3.plain,h3.zsz,h3.eqs⟩
  obtain⟨i,h4,h5,h6,h7⟩:=h3.info
  refine⟨i,h4,h5,h6,fun z hzz=>?_⟩
  have hzz:some (A.agg (.prt s))=some z:=hzz
  simp only[sie]at hzz
  subst hzz
  have h8:=hz _ (lookup_mem' hs)
  unfold zOkB at h8
  split at h8
  ·rename_i l hl
   obtain⟨v,e1,arr,rfl,e2,e3⟩:=h7 _ hl
   obtain⟨f1,f2⟩:=zCells_rel h8
   refine⟨_,e1,arr,rfl,?_,fun j x hx=>?_⟩
   ·rw[e2]
    exact f1.symm
   ·simp only[G.at]at hx
    obtain⟨y,g1,g2⟩:=f2 j x hx
    obtain⟨u,k1,k2⟩:=e3 j y g1
    exact⟨u,k1,zCell_rel g2 k2⟩
  ·cases h8
 ·exact tiOf3_ok (S:=S) h he t hk
inductive Tr where
 |nil
 |node (k:Nat) (v:TI) (l r:Tr)
def trGet (t:Nat):Tr→TI
 |.nil=>noTI
 |.node k v l r=>match Nat.blt t k with
  |true=>trGet t l
  |false=>(match Nat.blt k t with
   |true=>trGet t r
   |false=>v)
def trAll (p:Nat→TI→Prop):Tr→Prop
 |.nil=>True
 |.node k v l r=>p k v∧trAll p l∧trAll p r
theorem trGet_ok {p:Nat→TI→Prop}{t:Nat}:∀{T:Tr},trAll p T→(trGet t T).known=true→p t (trGet t T):=by
 intro T
 induction T with
 |nil=>intro _ h;cases h
 |node k v l r ihl ihr=>
  rintro⟨h1,h2,h3⟩ h
  simp only[trGet]at h ⊢
  split
  ·rename_i hb;rw[hb]at h;exact ihl h2 h
  ·rename_i hb
   rw[hb]at h
   simp only at h
   split
   ·rename_i hb2;rw[hb2]at h;exact ihr h3 h
   ·rename_i hb2
    have e:t=k:=by
     have a1:¬t<k:=fun h=>by rw[←Nat.blt_eq,hb]at h;cases h
     have a2:¬k<t:=fun h=>by rw[←Nat.blt_eq,hb2]at h;cases h
     omega
    subst e;exact h1
theorem trGet_TIok {P:Program}{f:Nat→TI}(hf:TIok P f){T:Tr}(h:trAll (fun t x=>f t=x∧x.known=true) T):TIok P (fun t=>trGet t T):=fun t hk=>by
 obtain⟨h1,h2⟩:=trGet_ok h hk
 have:=hf t (by rw[h1];exact h2)
 rw[h1]at this
 exact this
theorem TOk.of_eq {P:Program}{t:TypeId}{x:TI}(h:mkTI P t=x) (hk:x.known=true):TOk P t x:=by
 subst h;exact mkTI_ok hk
end Go.Eng
namespace Go.Eng
open Go
end Go.Eng
