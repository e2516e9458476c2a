import Derived.Test.YtlbllaocdilafaaZ46
import Derived.Test.YtlbllaocdilafaaZ27
set_option linter.unusedVariables false
set_option linter.unusedSimpArgs false
set_option maxRecDepth 100000
namespace Go.Proofs.Ytlbllaocdilafaa
open Go Go.Eng Go.Proofs
open Go.ChangeShapes Go.WideShapes Go.ChangeAt Go.RowKit
attribute[local irreducible] CallOk HOk Run TIok
theorem msgEncodes_own:ownKnob Try.prog.godebug=none:=by kernel_rfl
theorem msgEncodes_laidOut:laidOutB Try.prog=true:=by kernel_rfl
theorem msgEncodes_walk (w:World) (v0:Value) (d0:D) (hv0:ARel (Ren.none (snap w)) (.agg (.lst (cellsD arR (.two (.int .i64) (.two (.int .u32) (.two (.int .u64) (.two (.int .u64) (.two (.int .i64) (.two (.two (.int .u32) (.two (.int .u64) (.two (.arr .u8 16) (.int .u16)))) (.two (.two (.int .u32) (.two (.int .u64) (.two (.arr .u8 16) (.int .u16)))) (.two .str (.two (.int .u32) (.two .bool (.two .bool (.two (.sl (.two (.int .u32) (.two (.int .u64) (.two (.arr .u8 16) (.int .u16))))) (.two (.sl (.two (.int .u32) (.arr .u8 32))) (.two (.sl (.arr .u8 32)) (.two (.arr .u8 32) (.two (.arr .u8 32) (.two (.sl .str) (.two .str (.two .str (.two (.sl (.int .u64)) (.two (.sl (.two (.int .i64) .str)) (.two (.sl (.int .i64)) (.sl .str))))))))))))))))))))))) d0))) v0) (ok0:okD (.two (.int .i64) (.two (.int .u32) (.two (.int .u64) (.two (.int .u64) (.two (.int .i64) (.two (.two (.int .u32) (.two (.int .u64) (.two (.arr .u8 16) (.int .u16)))) (.two (.two (.int .u32) (.two (.int .u64) (.two (.arr .u8 16) (.int .u16)))) (.two .str (.two (.int .u32) (.two .bool (.two .bool (.two (.sl (.two (.int .u32) (.two (.int .u64) (.two (.arr .u8 16) (.int .u16))))) (.two (.sl (.two (.int .u32) (.arr .u8 32))) (.two (.sl (.arr .u8 32)) (.two (.arr .u8 32) (.two (.arr .u8 32) (.two (.sl .str) (.two .str (.two .str (.two (.sl (.int .u64)) (.two (.sl (.two (.int .i64) .str)) (.two (.sl (.int .i64)) (.sl .str))))))))))))))))))))))) d0) (hx0:lenC d0) (hr0:rawC d0):
 Calls Try.prog 8 #[v0] w fun e w'=>e=.returned (.bool true)∧Below w.heap.size w w':=by
 refine calls_true lenc_ok (xs:=[.agg (.prt [.v (.two (.int .i64) (.two (.int .u32) (.two (.int .u64) (.two (.int .u64) (.two (.int .i64) (.two (.two (.int .u32) (.two (.int .u64) (.two (.arr .u8 16) (.int .u16)))) (.two (.two (.int .u32) (.two (.int .u64) (.two (.arr .u8 16) (.int .u16)))) (.two .str (.two (.int .u32) (.two .bool (.two .bool (.two (.sl (.two (.int .u32) (.two (.int .u64) (.two (.arr .u8 16) (.int .u16))))) (.two (.sl (.two (.int .u32) (.arr .u8 32))) (.two (.sl (.arr .u8 32)) (.two (.arr .u8 32) (.two (.arr .u8 32) (.two (.sl .str) (.two .str (.two .str (.two (.sl (.int .u64)) (.two (.sl (.two (.int .i64) .str)) (.two (.sl (.int .i64)) (.sl .str))))))))))))))))))))))) d0])]) (ps:=[mAll d0]) Try.func8 rfl (by kernel_rfl) rfl ?_ ⟨rfl,fun j x hx=>?_⟩
 ·simp only[List.forall_mem_cons]
  exact⟨mall_of ok0 hx0 hr0,by simp⟩
 ·match j with
  |0=>simp only[List.getElem?_cons_zero,sie]at hx;subst hx;exact⟨_,rfl,prt_rel hv0⟩
  |j+1=>simp at hx
theorem msgEncodes_lifted (os:Os) (started:os.Started) (H:Type) (enc:TypeId×Value→H):
 ReturnsInHanded {} Try.checked os 8 .any (Rows.msgEncodesSpec.pre6 enc Try.prog Try.f8 Rows.msgEncodesRow.domain false) (Rows.msgEncodesSpec.post enc Try.prog Try.f8 false true false false):=by
 refine returnsInHanded_of_change_sized (C:=Try.checked) msgEncodes_own started (by kernel_rfl) Try.func8
  (ChangeSpec.witness6 (enc:=enc) (C:=Try.checked) false ⟨#[],#[.agg #[.int .i64 0,.int .u32 0,.int .u64 0,.int .u64 0,.int .i64 0,.int .u32 0,.int .u64 0,.int .u8 0,.int .u8 0,.int .u8 0,.int .u8 0,.int .u8 0,.int .u8 0,.int .u8 0,.int .u8 0,.int .u8 0,.int .u8 0,.int .u8 0,.int .u8 0,.int .u8 0,.int .u8 0,.int .u8 0,.int .u8 0,.int .u16 0,.int .u32 0,.int .u64 0,.int .u8 0,.int .u8 0,.int .u8 0,.int .u8 0,.int .u8 0,.int .u8 0,.int .u8 0,.int .u8 0,.int .u8 0,.int .u8 0,.int .u8 0,.int .u8 0,.int .u8 0,.int .u8 0,.int .u8 0,.int .u8 0,.int .u16 0,.string ⟨#[]⟩,.int .u32 0,.bool false,.bool false,.slice none 0 0,.slice none 0 0,.slice none 0 0,.int .u8 0,.int .u8 0,.int .u8 0,.int .u8 0,.int .u8 0,.int .u8 0,.int .u8 0,.int .u8 0,.int .u8 0,.int .u8 0,.int .u8 0,.int .u8 0,.int .u8 0,.int .u8 0,.int .u8 0,.int .u8 0,.int .u8 0,.int .u8 0,.int .u8 0,.int .u8 0,.int .u8 0,.int .u8 0,.int .u8 0,.int .u8 0,.int .u8 0,.int .u8 0,.int .u8 0,.int .u8 0,.int .u8 0,.int .u8 0,.int .u8 0,.int .u8 0,.int .u8 0,.int .u8 0,.int .u8 0,.int .u8 0,.int .u8 0,.int .u8 0,.int .u8 0,.int .u8 0,.int .u8 0,.int .u8 0,.int .u8 0,.int .u8 0,.int .u8 0,.int .u8 0,.int .u8 0,.int .u8 0,.int .u8 0,.int .u8 0,.int .u8 0,.int .u8 0,.int .u8 0,.int .u8 0,.int .u8 0,.int .u8 0,.int .u8 0,.int .u8 0,.int .u8 0,.int .u8 0,.int .u8 0,.int .u8 0,.int .u8 0,.int .u8 0,.slice none 0 0,.string ⟨#[]⟩,.string ⟨#[]⟩,.slice none 0 0,.slice none 0 0,.slice none 0 0,.slice none 0 0]],[]⟩ 8 (by kernel_rfl) (by kernel_rfl) (by kernel_rfl) (by kernel_rfl)) ?_
 intro W base args ds gs before hval0 hW hcnd hwt _
 have hval:∀(j:Nat) t v,Try.f8.params[j]? = some t→args[j]? = some v→Value.okWide Try.prog W .any base t v:=hval0
 have hW':=hW
 obtain⟨p,q,hA0,hV,rfl,hfz,hnd⟩:=hW
 have hA:DataW.TrodAll enc Try.prog W 0 (fun _=>true) true Try.f8.params.toList args.toList ds p:=hA0
 rw[Try.params8]at hA hval
 obtain⟨v0,vs0,d0,ds0,p0,q0,hargs,rfl,rfl,h0,r0⟩:=trodAll_cons hA
 obtain⟨rfl,rfl,rfl⟩:=trodAll_nil r0
 obtain rfl:args = #[v0]:=by cases args;simp_all
 obtain⟨rfl,rfl⟩:=trodVars_none hV
 have k0:=h0
 have lt0:∀x∈p0,x.block<W.heap.size:=by obtain⟨m,hm⟩:=k0;exact DataW.trod_lt m _ _ _ hm
 obtain⟨dd0,hv0,ok0⟩:=arg_struct (s:=(.two (.int .i64) (.two (.int .u32) (.two (.int .u64) (.two (.int .u64) (.two (.int .i64) (.two (.two (.int .u32) (.two (.int .u64) (.two (.arr .u8 16) (.int .u16)))) (.two (.two (.int .u32) (.two (.int .u64) (.two (.arr .u8 16) (.int .u16)))) (.two .str (.two (.int .u32) (.two .bool (.two .bool (.two (.sl (.two (.int .u32) (.two (.int .u64) (.two (.arr .u8 16) (.int .u16))))) (.two (.sl (.two (.int .u32) (.arr .u8 32))) (.two (.sl (.arr .u8 32)) (.two (.arr .u8 32) (.two (.arr .u8 32) (.two (.sl .str) (.two .str (.two .str (.two (.sl (.int .u64)) (.two (.sl (.two (.int .i64) .str)) (.two (.sl (.int .i64)) (.sl .str)))))))))))))))))))))))) Try.underlying79 (by kernel_rfl) (by kernel_rfl) (hval 0 79 v0 rfl rfl) h0
 clear hA0 hval0
 refine(msgEncodes_walk W v0 dd0 hv0 ok0 ⟨(fun s l hl=>by
  have hb:=struct_len (i:=11) (B:=reachBytes) Try.underlying79 rfl Try.underlying73 (by kernel_rfl) k0 hv0 hl (fun n hn=>odt (List.all_eq_true.1 hwt _ (DataW.weights_mem_each (j:=0) (t:=79) rfl rfl n hn)))
  have e:Try.prog.bytesOf 72=40:=by kernel_rfl
  rw[e]at hb
  exact hb),(fun s l hl=>by
  have hb:=struct_len (i:=12) (B:=reachBytes) Try.underlying79 rfl Try.underlying74 (by kernel_rfl) k0 hv0 hl (fun n hn=>odt (List.all_eq_true.1 hwt _ (DataW.weights_mem_each (j:=0) (t:=79) rfl rfl n hn)))
  have e:Try.prog.bytesOf 127=36:=by kernel_rfl
  rw[e]at hb
  exact hb),(fun s l hl=>by
  have hb:=struct_len (i:=13) (B:=reachBytes) Try.underlying79 rfl Try.underlying22 (by kernel_rfl) k0 hv0 hl (fun n hn=>odt (List.all_eq_true.1 hwt _ (DataW.weights_mem_each (j:=0) (t:=79) rfl rfl n hn)))
  have e:Try.prog.bytesOf 25=32:=by kernel_rfl
  rw[e]at hb
  exact hb),(fun s l hl=>by
  have hb:=struct_len (i:=16) (B:=reachBytes) Try.underlying79 rfl Try.underlying75 (by kernel_rfl) k0 hv0 hl (fun n hn=>odt (List.all_eq_true.1 hwt _ (DataW.weights_mem_each (j:=0) (t:=79) rfl rfl n hn)))
  have e:Try.prog.bytesOf 9=16:=by kernel_rfl
  rw[e]at hb
  exact hb),(fun s l hl=>by
  have hb:=struct_len (i:=19) (B:=reachBytes) Try.underlying79 rfl Try.underlying76 (by kernel_rfl) k0 hv0 hl (fun n hn=>odt (List.all_eq_true.1 hwt _ (DataW.weights_mem_each (j:=0) (t:=79) rfl rfl n hn)))
  have e:Try.prog.bytesOf 68=8:=by kernel_rfl
  rw[e]at hb
  exact hb),(fun s l hl=>by
  have hb:=struct_len (i:=20) (B:=reachBytes) Try.underlying79 rfl Try.underlying77 (by kernel_rfl) k0 hv0 hl (fun n hn=>odt (List.all_eq_true.1 hwt _ (DataW.weights_mem_each (j:=0) (t:=79) rfl rfl n hn)))
  have e:Try.prog.bytesOf 133=24:=by kernel_rfl
  rw[e]at hb
  exact hb),(fun s l hl=>by
  have hb:=struct_len (i:=21) (B:=reachBytes) Try.underlying79 rfl Try.underlying60 (by kernel_rfl) k0 hv0 hl (fun n hn=>odt (List.all_eq_true.1 hwt _ (DataW.weights_mem_each (j:=0) (t:=79) rfl rfl n hn)))
  have e:Try.prog.bytesOf 3=8:=by kernel_rfl
  rw[e]at hb
  exact hb),(fun s l hl=>by
  have hb:=struct_len (i:=22) (B:=reachBytes) Try.underlying79 rfl Try.underlying75 (by kernel_rfl) k0 hv0 hl (fun n hn=>odt (List.all_eq_true.1 hwt _ (DataW.weights_mem_each (j:=0) (t:=79) rfl rfl n hn)))
  have e:Try.prog.bytesOf 9=16:=by kernel_rfl
  rw[e]at hb
  exact hb)⟩ (fun s hl=>struct_str (i:=18) (B:=reachBytes) Try.underlying79 rfl Try.underlying9 (by kernel_rfl) k0 hv0 hl (fun n hn=>odt (List.all_eq_true.1 hwt _ (DataW.weights_mem_each (j:=0) (t:=79) rfl rfl n hn))))).mono fun e W' ⟨he,bel⟩=>?_
 subst he
 exact⟨_,rfl,_,_,_,[],_,[],hW',trodAll_mk1 (shut_bool Try.underlying4 _),(trodAll_cons_mk (Below.trod msgEncodes_laidOut (by kernel_rfl) (odt (by kernel_rfl)) k0 bel lt0) trodAll_mk0),rfl,bel.frame _,fun h=>by cases h⟩
theorem msgEncodes_over:Rows.msgEncodesRow.holds Try.pinned (OpenSpec.ofChange Rows.msgEncodesSpec):=
 OpenClaim.holds_of_wide 8 Try.f8 rfl rfl rfl rfl rfl rfl rfl ⟨rfl,rfl,rfl,rfl,rfl⟩ rfl rfl rfl rfl rfl (by kernel_rfl) Try.func8 (by kernel_rfl)
  (odt (by kernel_rfl)) (by unfold Func.isWrapper;first|(rw[if_pos (by decide +kernel)];kernel_rfl)|(rw[if_neg (by decide +kernel)];exact⟨rfl,rfl⟩))
  (fun os started H enc _=>msgEncodes_lifted os started H enc)
theorem msgEncodes_proved:Rows.MsgEncodesSaid:=msgEncodes_over
#print axioms msgEncodes_proved
end Go.Proofs.Ytlbllaocdilafaa
