import Derived.Test.YtlbllaocdilafaaZ09
import Derived.Test.YtlbllaocdilafaaProg
namespace Go.Proofs.Ytlbllaocdilafaa
open Go Go.Eng Go.Proofs
def mA (d:TD) (n:Nat) (z:A) (p:Bool) (b:Nat):TI:={known:=true,td:=d,size:=n,agg:=true,zero:=some z,plain:=p,bytes:=b,sh:=none}
def mO (d:TD) (z:A) (p:Bool) (b:Nat):TI:={known:=true,td:=d,size:=1,agg:=false,zero:=some z,plain:=p,bytes:=b,sh:=none}
theorem fm {α:Type}{p:α→Prop}{a:α}{l:List α}(h1:p a) (h2:∀x∈l,p x):∀x∈a::l,p x:=mc ⟨h1,h2⟩
theorem ft {n:Nat}{t:TI}{l:List (Nat×TI)}(h:TOk Try.prog n t) (h2:∀p∈l,TOk Try.prog p.1 p.2):∀p∈(n,t)::l,TOk Try.prog p.1 p.2:=mc ⟨h,h2⟩
def A0:TI:=mO (.int .i64) (.one (.lit .i64 0)) true 8
def A1:TI:=mO (.bool) (.one (.lbool false)) true 1
def A2:TI:=mO (.int .u8) (.one (.lit .u8 0)) true 1
def A3:TI:=mA (.strct [(0,2),(1,3),(2,4),(3,6)]) 4 (.agg (.lst [.lit .i64 0,.lit .i64 0,.lbool false,.lit .u8 0])) true 24
def A4:TI:=mO (.str) (.one (.str .empty)) true 16
def A5:TI:=mO (.int .u64) (.one (.lit .u64 0)) true 8
def A6:TI:=mA (.strct [(0,9),(1,12)]) 2 (.agg (.lst [.str .empty,.lit .u64 0])) true 24
def A7:TI:=mO (.ptr 223) (.one (.nil)) true 8
def A8:TI:=mO (.ptr 226) (.one (.nil)) true 8
def A9:TI:=mO (.ptr 233) (.one (.nil)) true 8
def A10:TI:=mA (.strct [(0,17)]) 1 (.agg (.lst [.nil])) true 8
def A11:TI:=mO (.int .i32) (.one (.lit .i32 0)) true 4
def A12:TI:=mO (.slice 25) (.one .nsl) true 24
def A13:TI:=mA (.arr 32 5) 32 (.agg (.ints .u8 (.lit 32) (fun _=>0))) true 32
def A14:TI:=mO (.slice 24) (.one .nsl) true 24
def A15:TI:=mO (.slice 22) (.one .nsl) true 24
def A16:TI:=mO (.slice 4) (.one .nsl) true 24
def A17:TI:=mA (.strct [(0,3),(1,51),(2,22)]) 3 (.agg (.lst [.lit .i64 0,.nsl,.nsl])) true 56
def A18:TI:=mA (.strct [(0,3),(1,51),(2,30)]) 3 (.agg (.lst [.lit .i64 0,.nsl,.nsl])) true 56
def A19:TI:=mO (.slice 3) (.one .nsl) true 24
def A20:TI:=mO (.int .u32) (.one (.lit .u32 0)) true 4
def A21:TI:=mA (.arr 16 5) 16 (.agg (.ints .u8 (.lit 16) (fun _=>0))) true 16
def A22:TI:=mO (.int .u16) (.one (.lit .u16 0)) true 2
def A23:TI:=mA (.strct [(0,67),(1,68),(2,69),(18,70)]) 19 (.agg (.lst [.lit .u32 0,.lit .u64 0,.lit .u8 0,.lit .u8 0,.lit .u8 0,.lit .u8 0,.lit .u8 0,.lit .u8 0,.lit .u8 0,.lit .u8 0,.lit .u8 0,.lit .u8 0,.lit .u8 0,.lit .u8 0,.lit .u8 0,.lit .u8 0,.lit .u8 0,.lit .u8 0,.lit .u16 0])) true 40
def A24:TI:=mO (.slice 72) (.one .nsl) true 24
def A25:TI:=mO (.slice 127) (.one .nsl) true 24
def A26:TI:=mO (.slice 9) (.one .nsl) true 24
def A27:TI:=mO (.slice 68) (.one .nsl) true 24
def A28:TI:=mO (.slice 133) (.one .nsl) true 24
def A29:TI:=mA (.strct [(0,3),(1,67),(2,68),(3,68),(4,2),(5,72),(24,72),(43,9),(44,67),(45,4),(46,4),(47,73),(48,74),(49,22),(50,25),(82,25),(114,75),(115,9),(116,9),(117,76),(118,77),(119,60),(120,75)]) 121 (.agg (.lst [.lit .i64 0,.lit .u32 0,.lit .u64 0,.lit .u64 0,.lit .i64 0,.lit .u32 0,.lit .u64 0,.lit .u8 0,.lit .u8 0,.lit .u8 0,.lit .u8 0,.lit .u8 0,.lit .u8 0,.lit .u8 0,.lit .u8 0,.lit .u8 0,.lit .u8 0,.lit .u8 0,.lit .u8 0,.lit .u8 0,.lit .u8 0,.lit .u8 0,.lit .u8 0,.lit .u16 0,.lit .u32 0,.lit .u64 0,.lit .u8 0,.lit .u8 0,.lit .u8 0,.lit .u8 0,.lit .u8 0,.lit .u8 0,.lit .u8 0,.lit .u8 0,.lit .u8 0,.lit .u8 0,.lit .u8 0,.lit .u8 0,.lit .u8 0,.lit .u8 0,.lit .u8 0,.lit .u8 0,.lit .u16 0,.str .empty,.lit .u32 0,.lbool false,.lbool false,.nsl,.nsl,.nsl,.lit .u8 0,.lit .u8 0,.lit .u8 0,.lit .u8 0,.lit .u8 0,.lit .u8 0,.lit .u8 0,.lit .u8 0,.lit .u8 0,.lit .u8 0,.lit .u8 0,.lit .u8 0,.lit .u8 0,.lit .u8 0,.lit .u8 0,.lit .u8 0,.lit .u8 0,.lit .u8 0,.lit .u8 0,.lit .u8 0,.lit .u8 0,.lit .u8 0,.lit .u8 0,.lit .u8 0,.lit .u8 0,.lit .u8 0,.lit .u8 0,.lit .u8 0,.lit .u8 0,.lit .u8 0,.lit .u8 0,.lit .u8 0,.lit .u8 0,.lit .u8 0,.lit .u8 0,.lit .u8 0,.lit .u8 0,.lit .u8 0,.lit .u8 0,.lit .u8 0,.lit .u8 0,.lit .u8 0,.lit .u8 0,.lit .u8 0,.lit .u8 0,.lit .u8 0,.lit .u8 0,.lit .u8 0,.lit .u8 0,.lit .u8 0,.lit .u8 0,.lit .u8 0,.lit .u8 0,.lit .u8 0,.lit .u8 0,.lit .u8 0,.lit .u8 0,.lit .u8 0,.lit .u8 0,.lit .u8 0,.lit .u8 0,.lit .u8 0,.lit .u8 0,.lit .u8 0,.nsl,.str .empty,.str .empty,.nsl,.nsl,.nsl,.nsl])) true 432
def A30:TI:=mO (.slice 82) (.one .nsl) true 24
def A31:TI:=mO (.slice 136) (.one .nsl) true 24
def A32:TI:=mO (.slice 137) (.one .nsl) true 24
def A33:TI:=mA (.strct [(0,3),(1,67),(2,68),(3,68),(4,2),(5,82),(24,82),(43,9),(44,67),(45,4),(46,4),(47,83),(48,84),(49,30),(50,24),(82,24),(114,75),(115,9),(116,9),(117,76),(118,85),(119,60),(120,75)]) 121 (.agg (.lst [.lit .i64 0,.lit .u32 0,.lit .u64 0,.lit .u64 0,.lit .i64 0,.lit .u32 0,.lit .u64 0,.lit .u8 0,.lit .u8 0,.lit .u8 0,.lit .u8 0,.lit .u8 0,.lit .u8 0,.lit .u8 0,.lit .u8 0,.lit .u8 0,.lit .u8 0,.lit .u8 0,.lit .u8 0,.lit .u8 0,.lit .u8 0,.lit .u8 0,.lit .u8 0,.lit .u16 0,.lit .u32 0,.lit .u64 0,.lit .u8 0,.lit .u8 0,.lit .u8 0,.lit .u8 0,.lit .u8 0,.lit .u8 0,.lit .u8 0,.lit .u8 0,.lit .u8 0,.lit .u8 0,.lit .u8 0,.lit .u8 0,.lit .u8 0,.lit .u8 0,.lit .u8 0,.lit .u8 0,.lit .u16 0,.str .empty,.lit .u32 0,.lbool false,.lbool false,.nsl,.nsl,.nsl,.lit .u8 0,.lit .u8 0,.lit .u8 0,.lit .u8 0,.lit .u8 0,.lit .u8 0,.lit .u8 0,.lit .u8 0,.lit .u8 0,.lit .u8 0,.lit .u8 0,.lit .u8 0,.lit .u8 0,.lit .u8 0,.lit .u8 0,.lit .u8 0,.lit .u8 0,.lit .u8 0,.lit .u8 0,.lit .u8 0,.lit .u8 0,.lit .u8 0,.lit .u8 0,.lit .u8 0,.lit .u8 0,.lit .u8 0,.lit .u8 0,.lit .u8 0,.lit .u8 0,.lit .u8 0,.lit .u8 0,.lit .u8 0,.lit .u8 0,.lit .u8 0,.lit .u8 0,.lit .u8 0,.lit .u8 0,.lit .u8 0,.lit .u8 0,.lit .u8 0,.lit .u8 0,.lit .u8 0,.lit .u8 0,.lit .u8 0,.lit .u8 0,.lit .u8 0,.lit .u8 0,.lit .u8 0,.lit .u8 0,.lit .u8 0,.lit .u8 0,.lit .u8 0,.lit .u8 0,.lit .u8 0,.lit .u8 0,.lit .u8 0,.lit .u8 0,.lit .u8 0,.lit .u8 0,.lit .u8 0,.lit .u8 0,.lit .u8 0,.lit .u8 0,.lit .u8 0,.nsl,.str .empty,.str .empty,.nsl,.nsl,.nsl,.nsl])) true 432
def A34:TI:=mO (.slice 5) (.one .nsl) true 24
def A35:TI:=mO (.ptr 111) (.one (.nil)) true 8
def A36:TI:=mA (.strct [(0,36),(1,51),(2,53)]) 5 (.agg (.lst [.nsl,.nsl,.lit .i64 0,.nsl,.nsl])) true 104
def A37:TI:=mO (.slice 30) (.one .nsl) true 24
def A38:TI:=mO (.ptr 118) (.one (.nil)) true 8
def A39:TI:=mA (.strct [(0,53),(3,3),(4,3),(5,60),(6,60),(7,22),(8,4)]) 9 (.agg (.lst [.lit .i64 0,.nsl,.nsl,.lit .i64 0,.lit .i64 0,.nsl,.nsl,.nsl,.lbool false])) true 152
def A40:TI:=mA (.strct [(0,57),(3,3),(4,3),(5,60),(6,30),(7,4)]) 8 (.agg (.lst [.lit .i64 0,.nsl,.nsl,.lit .i64 0,.lit .i64 0,.nsl,.nsl,.lbool false])) true 128
def A41:TI:=mA (.strct [(0,67),(1,25)]) 33 (.agg (.lst [.lit .u32 0,.lit .u8 0,.lit .u8 0,.lit .u8 0,.lit .u8 0,.lit .u8 0,.lit .u8 0,.lit .u8 0,.lit .u8 0,.lit .u8 0,.lit .u8 0,.lit .u8 0,.lit .u8 0,.lit .u8 0,.lit .u8 0,.lit .u8 0,.lit .u8 0,.lit .u8 0,.lit .u8 0,.lit .u8 0,.lit .u8 0,.lit .u8 0,.lit .u8 0,.lit .u8 0,.lit .u8 0,.lit .u8 0,.lit .u8 0,.lit .u8 0,.lit .u8 0,.lit .u8 0,.lit .u8 0,.lit .u8 0,.lit .u8 0])) true 36
def A42:TI:=mA (.strct [(0,3),(1,9)]) 2 (.agg (.lst [.lit .i64 0,.str .empty])) true 24
def A43:TI:=mA (.strct [(0,67),(1,24)]) 33 (.agg (.lst [.lit .u32 0,.lit .u8 0,.lit .u8 0,.lit .u8 0,.lit .u8 0,.lit .u8 0,.lit .u8 0,.lit .u8 0,.lit .u8 0,.lit .u8 0,.lit .u8 0,.lit .u8 0,.lit .u8 0,.lit .u8 0,.lit .u8 0,.lit .u8 0,.lit .u8 0,.lit .u8 0,.lit .u8 0,.lit .u8 0,.lit .u8 0,.lit .u8 0,.lit .u8 0,.lit .u8 0,.lit .u8 0,.lit .u8 0,.lit .u8 0,.lit .u8 0,.lit .u8 0,.lit .u8 0,.lit .u8 0,.lit .u8 0,.lit .u8 0])) true 36
def A44:TI:=mO (.ptr 167) (.one (.nil)) true 8
def A45:TI:=mO (.ptr 152) (.one (.nil)) true 8
def A46:TI:=mO (.ptr 179) (.one (.nil)) true 8
def A47:TI:=mA (.strct [(0,149),(1,3)]) 2 (.agg (.lst [.nil,.lit .i64 0])) true 16
def A48:TI:=mO (.ptr 79) (.one (.nil)) true 8
def A49:TI:=mA (.arr 19 9) 19 (.agg (.lst [.str .empty,.str .empty,.str .empty,.str .empty,.str .empty,.str .empty,.str .empty,.str .empty,.str .empty,.str .empty,.str .empty,.str .empty,.str .empty,.str .empty,.str .empty,.str .empty,.str .empty,.str .empty,.str .empty])) true 304
def A50:TI:=mO (.ptr 165) (.one (.nil)) true 8
def A51:TI:=mA (.strct [(0,163),(1,107)]) 2 (.agg (.lst [.nil,.nsl])) true 32
def A52:TI:=mA (.strct [(0,165)]) 2 (.agg (.lst [.nil,.nsl])) true 32
def A53:TI:=mA (.strct [(0,9),(1,3),(2,43)]) 3 (.agg (.lst [.str .empty,.lit .i64 0,.lit .i64 0])) true 32
def A54:TI:=mO (.ptr 207) (.one (.nil)) true 8
def A55:TI:=mA (.arr 8 67) 8 (.agg (.ints .u32 (.lit 8) (fun _=>0))) true 32
def A56:TI:=mA (.arr 64 5) 64 (.agg (.ints .u8 (.lit 64) (fun _=>0))) true 64
def A57:TI:=mO (.ptr 5) (.one (.nil)) true 8
def A58:TI:=mA (.strct [(0,204),(8,107),(9,68)]) 10 (.agg (.lst [.lit .u32 0,.lit .u32 0,.lit .u32 0,.lit .u32 0,.lit .u32 0,.lit .u32 0,.lit .u32 0,.lit .u32 0,.nsl,.lit .u64 0])) true 64
def A59:TI:=mA (.arr 64 67) 64 (.agg (.ints .u32 (.lit 64) (fun _=>0))) true 256
def A60:TI:=mO (.ptr 189) (.one (.nil)) true 8
def A61:TI:=mO (.ptr 209) (.one (.nil)) true 8
def A62:TI:=mA (.strct [(0,17),(1,17),(2,17),(3,9)]) 4 (.agg (.lst [.nil,.nil,.nil,.str .empty])) true 40
def A63:TI:=mA (.arr 0 16) 0 (.agg (.lst [])) true 0
def A64:TI:=mA (.strct [(0,224)]) 0 (.agg (.lst [])) true 0
def TL:List (Nat×TI):=[(2,A0),(3,A0),(4,A1),(5,A2),(6,A2),(7,A3),(8,A3),(9,A4),(10,A4),(11,A4),(12,A5),(13,A6),(14,A6),(15,A7),(16,A8),(17,A9),(18,A10),(19,A10),(21,A11),(22,A12),(24,A13),(25,A13),(30,A14),(36,A15),(43,A0),(51,A16),(52,A17),(53,A17),(56,A18),(57,A18),(60,A19),(67,A20),(68,A5),(69,A21),(70,A22),(71,A23),(72,A23),(73,A24),(74,A25),(75,A26),(76,A27),(77,A28),(78,A29),(79,A29),(82,A23),(83,A30),(84,A31),(85,A32),(86,A33),(87,A33),(107,A34),(109,A35),(110,A36),(111,A36),(113,A37),(116,A38),(117,A39),(118,A39),(120,A40),(121,A40),(126,A41),(127,A41),(132,A42),(133,A42),(135,A43),(136,A43),(137,A42),(140,A44),(148,A45),(149,A46),(151,A47),(152,A47),(154,A48),(157,A49),(163,A50),(164,A51),(165,A51),(166,A52),(167,A52),(178,A53),(179,A53),(185,A54),(187,A55),(189,A56),(199,A5),(200,A57),(204,A55),(206,A58),(207,A58),(209,A59),(217,A60),(218,A61),(222,A62),(223,A62),(224,A63),(225,A64),(226,A64),(227,A2),(228,A2),(230,A11),(231,A11)]
theorem tok2:TOk Try.prog 2 A0:=.of_eq (by kernel_rfl) rfl
theorem tok3:TOk Try.prog 3 A0:=.of_eq (by kernel_rfl) rfl
theorem tok4:TOk Try.prog 4 A1:=.of_eq (by kernel_rfl) rfl
theorem tok5:TOk Try.prog 5 A2:=.of_eq (by kernel_rfl) rfl
theorem tok6:TOk Try.prog 6 A2:=.of_eq (by kernel_rfl) rfl
theorem tok7:TOk Try.prog 7 A3:=.of_eq (by kernel_rfl) rfl
theorem tok8:TOk Try.prog 8 A3:=.of_eq (by kernel_rfl) rfl
theorem tok9:TOk Try.prog 9 A4:=.of_eq (by kernel_rfl) rfl
theorem tok10:TOk Try.prog 10 A4:=.of_eq (by kernel_rfl) rfl
theorem tok11:TOk Try.prog 11 A4:=.of_eq (by kernel_rfl) rfl
theorem tok12:TOk Try.prog 12 A5:=.of_eq (by kernel_rfl) rfl
theorem tok13:TOk Try.prog 13 A6:=.of_eq (by kernel_rfl) rfl
theorem tok14:TOk Try.prog 14 A6:=.of_eq (by kernel_rfl) rfl
theorem tok15:TOk Try.prog 15 A7:=.of_eq (by kernel_rfl) rfl
theorem tok16:TOk Try.prog 16 A8:=.of_eq (by kernel_rfl) rfl
theorem tok17:TOk Try.prog 17 A9:=.of_eq (by kernel_rfl) rfl
theorem tok18:TOk Try.prog 18 A10:=.of_eq (by kernel_rfl) rfl
theorem tok19:TOk Try.prog 19 A10:=.of_eq (by kernel_rfl) rfl
theorem tok21:TOk Try.prog 21 A11:=.of_eq (by kernel_rfl) rfl
theorem tok22:TOk Try.prog 22 A12:=.of_eq (by kernel_rfl) rfl
theorem tok24:TOk Try.prog 24 A13:=.of_eq (by kernel_rfl) rfl
theorem tok25:TOk Try.prog 25 A13:=.of_eq (by kernel_rfl) rfl
theorem tok30:TOk Try.prog 30 A14:=.of_eq (by kernel_rfl) rfl
theorem tok36:TOk Try.prog 36 A15:=.of_eq (by kernel_rfl) rfl
theorem tok43:TOk Try.prog 43 A0:=.of_eq (by kernel_rfl) rfl
theorem tok51:TOk Try.prog 51 A16:=.of_eq (by kernel_rfl) rfl
theorem tok52:TOk Try.prog 52 A17:=.of_eq (by kernel_rfl) rfl
theorem tok53:TOk Try.prog 53 A17:=.of_eq (by kernel_rfl) rfl
theorem tok56:TOk Try.prog 56 A18:=.of_eq (by kernel_rfl) rfl
theorem tok57:TOk Try.prog 57 A18:=.of_eq (by kernel_rfl) rfl
theorem tok60:TOk Try.prog 60 A19:=.of_eq (by kernel_rfl) rfl
theorem tok67:TOk Try.prog 67 A20:=.of_eq (by kernel_rfl) rfl
theorem tok68:TOk Try.prog 68 A5:=.of_eq (by kernel_rfl) rfl
theorem tok69:TOk Try.prog 69 A21:=.of_eq (by kernel_rfl) rfl
theorem tok70:TOk Try.prog 70 A22:=.of_eq (by kernel_rfl) rfl
theorem tok71:TOk Try.prog 71 A23:=.of_eq (by kernel_rfl) rfl
theorem tok72:TOk Try.prog 72 A23:=.of_eq (by kernel_rfl) rfl
theorem tok73:TOk Try.prog 73 A24:=.of_eq (by kernel_rfl) rfl
theorem tok74:TOk Try.prog 74 A25:=.of_eq (by kernel_rfl) rfl
theorem tok75:TOk Try.prog 75 A26:=.of_eq (by kernel_rfl) rfl
theorem tok76:TOk Try.prog 76 A27:=.of_eq (by kernel_rfl) rfl
theorem tok77:TOk Try.prog 77 A28:=.of_eq (by kernel_rfl) rfl
theorem tok78:TOk Try.prog 78 A29:=.of_eq (by kernel_rfl) rfl
theorem tok79:TOk Try.prog 79 A29:=.of_eq (by kernel_rfl) rfl
theorem tok82:TOk Try.prog 82 A23:=.of_eq (by kernel_rfl) rfl
theorem tok83:TOk Try.prog 83 A30:=.of_eq (by kernel_rfl) rfl
theorem tok84:TOk Try.prog 84 A31:=.of_eq (by kernel_rfl) rfl
theorem tok85:TOk Try.prog 85 A32:=.of_eq (by kernel_rfl) rfl
theorem tok86:TOk Try.prog 86 A33:=.of_eq (by kernel_rfl) rfl
theorem tok87:TOk Try.prog 87 A33:=.of_eq (by kernel_rfl) rfl
theorem tok107:TOk Try.prog 107 A34:=.of_eq (by kernel_rfl) rfl
theorem tok109:TOk Try.prog 109 A35:=.of_eq (by kernel_rfl) rfl
theorem tok110:TOk Try.prog 110 A36:=.of_eq (by kernel_rfl) rfl
theorem tok111:TOk Try.prog 111 A36:=.of_eq (by kernel_rfl) rfl
theorem tok113:TOk Try.prog 113 A37:=.of_eq (by kernel_rfl) rfl
theorem tok116:TOk Try.prog 116 A38:=.of_eq (by kernel_rfl) rfl
theorem tok117:TOk Try.prog 117 A39:=.of_eq (by kernel_rfl) rfl
theorem tok118:TOk Try.prog 118 A39:=.of_eq (by kernel_rfl) rfl
theorem tok120:TOk Try.prog 120 A40:=.of_eq (by kernel_rfl) rfl
theorem tok121:TOk Try.prog 121 A40:=.of_eq (by kernel_rfl) rfl
theorem tok126:TOk Try.prog 126 A41:=.of_eq (by kernel_rfl) rfl
theorem tok127:TOk Try.prog 127 A41:=.of_eq (by kernel_rfl) rfl
theorem tok132:TOk Try.prog 132 A42:=.of_eq (by kernel_rfl) rfl
theorem tok133:TOk Try.prog 133 A42:=.of_eq (by kernel_rfl) rfl
theorem tok135:TOk Try.prog 135 A43:=.of_eq (by kernel_rfl) rfl
theorem tok136:TOk Try.prog 136 A43:=.of_eq (by kernel_rfl) rfl
theorem tok137:TOk Try.prog 137 A42:=.of_eq (by kernel_rfl) rfl
theorem tok140:TOk Try.prog 140 A44:=.of_eq (by kernel_rfl) rfl
theorem tok148:TOk Try.prog 148 A45:=.of_eq (by kernel_rfl) rfl
theorem tok149:TOk Try.prog 149 A46:=.of_eq (by kernel_rfl) rfl
theorem tok151:TOk Try.prog 151 A47:=.of_eq (by kernel_rfl) rfl
theorem tok152:TOk Try.prog 152 A47:=.of_eq (by kernel_rfl) rfl
theorem tok154:TOk Try.prog 154 A48:=.of_eq (by kernel_rfl) rfl
theorem tok157:TOk Try.prog 157 A49:=.of_eq (by kernel_rfl) rfl
theorem tok163:TOk Try.prog 163 A50:=.of_eq (by kernel_rfl) rfl
theorem tok164:TOk Try.prog 164 A51:=.of_eq (by kernel_rfl) rfl
theorem tok165:TOk Try.prog 165 A51:=.of_eq (by kernel_rfl) rfl
theorem tok166:TOk Try.prog 166 A52:=.of_eq (by kernel_rfl) rfl
theorem tok167:TOk Try.prog 167 A52:=.of_eq (by kernel_rfl) rfl
theorem tok178:TOk Try.prog 178 A53:=.of_eq (by kernel_rfl) rfl
theorem tok179:TOk Try.prog 179 A53:=.of_eq (by kernel_rfl) rfl
theorem tok185:TOk Try.prog 185 A54:=.of_eq (by kernel_rfl) rfl
theorem tok187:TOk Try.prog 187 A55:=.of_eq (by kernel_rfl) rfl
theorem tok189:TOk Try.prog 189 A56:=.of_eq (by kernel_rfl) rfl
theorem tok199:TOk Try.prog 199 A5:=.of_eq (by kernel_rfl) rfl
theorem tok200:TOk Try.prog 200 A57:=.of_eq (by kernel_rfl) rfl
theorem tok204:TOk Try.prog 204 A55:=.of_eq (by kernel_rfl) rfl
theorem tok206:TOk Try.prog 206 A58:=.of_eq (by kernel_rfl) rfl
theorem tok207:TOk Try.prog 207 A58:=.of_eq (by kernel_rfl) rfl
theorem tok209:TOk Try.prog 209 A59:=.of_eq (by kernel_rfl) rfl
theorem tok217:TOk Try.prog 217 A60:=.of_eq (by kernel_rfl) rfl
theorem tok218:TOk Try.prog 218 A61:=.of_eq (by kernel_rfl) rfl
theorem tok222:TOk Try.prog 222 A62:=.of_eq (by kernel_rfl) rfl
theorem tok223:TOk Try.prog 223 A62:=.of_eq (by kernel_rfl) rfl
theorem tok224:TOk Try.prog 224 A63:=.of_eq (by kernel_rfl) rfl
theorem tok225:TOk Try.prog 225 A64:=.of_eq (by kernel_rfl) rfl
theorem tok226:TOk Try.prog 226 A64:=.of_eq (by kernel_rfl) rfl
theorem tok227:TOk Try.prog 227 A2:=.of_eq (by kernel_rfl) rfl
theorem tok228:TOk Try.prog 228 A2:=.of_eq (by kernel_rfl) rfl
theorem tok230:TOk Try.prog 230 A11:=.of_eq (by kernel_rfl) rfl
theorem tok231:TOk Try.prog 231 A11:=.of_eq (by kernel_rfl) rfl
theorem tl_ok:∀p∈TL,TOk Try.prog p.1 p.2:=ft tok2 (ft tok3 (ft tok4 (ft tok5 (ft tok6 (ft tok7 (ft tok8 (ft tok9 (ft tok10 (ft tok11 (ft tok12 (ft tok13 (ft tok14 (ft tok15 (ft tok16 (ft tok17 (ft tok18 (ft tok19 (ft tok21 (ft tok22 (ft tok24 (ft tok25 (ft tok30 (ft tok36 (ft tok43 (ft tok51 (ft tok52 (ft tok53 (ft tok56 (ft tok57 (ft tok60 (ft tok67 (ft tok68 (ft tok69 (ft tok70 (ft tok71 (ft tok72 (ft tok73 (ft tok74 (ft tok75 (ft tok76 (ft tok77 (ft tok78 (ft tok79 (ft tok82 (ft tok83 (ft tok84 (ft tok85 (ft tok86 (ft tok87 (ft tok107 (ft tok109 (ft tok110 (ft tok111 (ft tok113 (ft tok116 (ft tok117 (ft tok118 (ft tok120 (ft tok121 (ft tok126 (ft tok127 (ft tok132 (ft tok133 (ft tok135 (ft tok136 (ft tok137 (ft tok140 (ft tok148 (ft tok149 (ft tok151 (ft tok152 (ft tok154 (ft tok157 (ft tok163 (ft tok164 (ft tok165 (ft tok166 (ft tok167 (ft tok178 (ft tok179 (ft tok185 (ft tok187 (ft tok189 (ft tok199 (ft tok200 (ft tok204 (ft tok206 (ft tok207 (ft tok209 (ft tok217 (ft tok218 (ft tok222 (ft tok223 (ft tok224 (ft tok225 (ft tok226 (ft tok227 (ft tok228 (ft tok230 (ft tok231 (fun _ h=>by cases h)))))))))))))))))))))))))))))))))))))))))))))))))))))))))))))))))))))))))))))))))))))))))))))))))))))
def W65:Sh:=(.two (.int .i64) (.two (.int .i64) (.two .bool (.int .u8))))
def W66:Sh:=(.two .str (.int .u64))
def W67:Sh:=(.sl (.arr .u8 32))
def W68:Sh:=(.sl (.sl (.arr .u8 32)))
def W69:Sh:=(.two (.int .i64) (.two (.sl .bool) (.sl (.arr .u8 32))))
def W70:Sh:=(.sl (.int .i64))
def W71:Sh:=(.two (.int .u32) (.two (.int .u64) (.two (.arr .u8 16) (.int .u16))))
def W72:Sh:=(.sl (.two (.int .u32) (.two (.int .u64) (.two (.arr .u8 16) (.int .u16)))))
def W73:Sh:=(.sl (.two (.int .u32) (.arr .u8 32)))
def W74:Sh:=(.sl (.int .u64))
def W75:Sh:=(.sl (.two (.int .i64) .str))
def W76:Sh:=(.two (.int .i64) (.two (.int .u32) (.two (.int .u64) (.two (.int .u64) (.two (.int .i64) (.two (.two (.int .u32) (.two (.int .u64) (.two (.arr .u8 16) (.int .u16)))) (.two (.two (.int .u32) (.two (.int .u64) (.two (.arr .u8 16) (.int .u16)))) (.two .str (.two (.int .u32) (.two .bool (.two .bool (.two (.sl (.two (.int .u32) (.two (.int .u64) (.two (.arr .u8 16) (.int .u16))))) (.two (.sl (.two (.int .u32) (.arr .u8 32))) (.two (.sl (.arr .u8 32)) (.two (.arr .u8 32) (.two (.arr .u8 32) (.two (.sl .str) (.two .str (.two .str (.two (.sl (.int .u64)) (.two (.sl (.two (.int .i64) .str)) (.two (.sl (.int .i64)) (.sl .str)))))))))))))))))))))))
def W77:Sh:=(.sl (.int .u8))
def W78:Sh:=(.two (.sl (.sl (.arr .u8 32))) (.two (.sl .bool) (.two (.int .i64) (.two (.sl .bool) (.sl (.arr .u8 32))))))
def W79:Sh:=(.two (.two (.int .i64) (.two (.sl .bool) (.sl (.arr .u8 32)))) (.two (.int .i64) (.two (.int .i64) (.two (.sl (.int .i64)) (.two (.sl (.int .i64)) (.two (.sl (.arr .u8 32)) .bool))))))
def W80:Sh:=(.two (.two (.int .i64) (.two (.sl .bool) (.sl (.arr .u8 32)))) (.two (.int .i64) (.two (.int .i64) (.two (.sl (.int .i64)) (.two (.sl (.arr .u8 32)) .bool)))))
def W81:Sh:=(.two (.int .u32) (.arr .u8 32))
def W82:Sh:=(.two (.int .i64) .str)
def W83:Sh:=(.two .str (.two (.int .i64) (.int .i64)))
def W84:Sh:=(.two (.arr .u32 8) (.two (.sl (.int .u8)) (.int .u64)))
def TS:List (Nat×Sh):=[(2,(.int .i64)),(3,(.int .i64)),(4,.bool),(5,(.int .u8)),(6,(.int .u8)),(7,W65),(8,W65),(9,.str),(10,.str),(11,.str),(12,(.int .u64)),(13,W66),(14,W66),(21,(.int .i32)),(22,W67),(24,(.arr .u8 32)),(25,(.arr .u8 32)),(30,W67),(36,W68),(43,(.int .i64)),(51,(.sl .bool)),(52,W69),(53,W69),(56,W69),(57,W69),(60,W70),(67,(.int .u32)),(68,(.int .u64)),(69,(.arr .u8 16)),(70,(.int .u16)),(71,W71),(72,W71),(73,W72),(74,W73),(75,(.sl .str)),(76,W74),(77,W75),(78,W76),(79,W76),(82,W71),(83,W72),(84,W73),(85,W75),(86,W76),(87,W76),(107,W77),(110,W78),(111,W78),(113,W68),(117,W79),(118,W79),(120,W80),(121,W80),(126,W81),(127,W81),(132,W82),(133,W82),(135,W81),(136,W81),(137,W82),(178,W83),(179,W83),(187,(.arr .u32 8)),(189,(.arr .u8 64)),(199,(.int .u64)),(204,(.arr .u32 8)),(206,W84),(207,W84),(209,(.arr .u32 64)),(227,(.int .u8)),(228,(.int .u8)),(230,(.int .i32)),(231,(.int .i32))]
def ES:List Nat:=[71,72,82,126,127,132,133,135,136,137,178,179]
theorem eqs71:eqsB Try.prog 71=true:=by kernel_rfl
theorem eqs72:eqsB Try.prog 72=true:=by kernel_rfl
theorem eqs82:eqsB Try.prog 82=true:=by kernel_rfl
theorem eqs126:eqsB Try.prog 126=true:=by kernel_rfl
theorem eqs127:eqsB Try.prog 127=true:=by kernel_rfl
theorem eqs132:eqsB Try.prog 132=true:=by kernel_rfl
theorem eqs133:eqsB Try.prog 133=true:=by kernel_rfl
theorem eqs135:eqsB Try.prog 135=true:=by kernel_rfl
theorem eqs136:eqsB Try.prog 136=true:=by kernel_rfl
theorem eqs137:eqsB Try.prog 137=true:=by kernel_rfl
theorem eqs178:eqsB Try.prog 178=true:=by kernel_rfl
theorem eqs179:eqsB Try.prog 179=true:=by kernel_rfl
def Z85:List Pt:=[.c (.lit .u32 0),.c (.lit .u64 0),.v (.arr .u8 16) (.row [0,0,0,0,0,0,0,0,0,0,0,0,0,0,0,0]),.c (.lit .u16 0)]
def Z86:List Pt:=[.c (.lit .i64 0),.c (.lit .u32 0),.c (.lit .u64 0),.c (.lit .u64 0),.c (.lit .i64 0),.v W71 (.pair (.int 0) (.pair (.int 0) (.pair (.row [0,0,0,0,0,0,0,0,0,0,0,0,0,0,0,0]) (.int 0)))),.v W71 (.pair (.int 0) (.pair (.int 0) (.pair (.row [0,0,0,0,0,0,0,0,0,0,0,0,0,0,0,0]) (.int 0)))),.c (.str .empty),.c (.lit .u32 0),.c (.lbool false),.c (.lbool false),.c .nsl,.c .nsl,.c .nsl,.v (.arr .u8 32) (.row [0,0,0,0,0,0,0,0,0,0,0,0,0,0,0,0,0,0,0,0,0,0,0,0,0,0,0,0,0,0,0,0]),.v (.arr .u8 32) (.row [0,0,0,0,0,0,0,0,0,0,0,0,0,0,0,0,0,0,0,0,0,0,0,0,0,0,0,0,0,0,0,0]),.c .nsl,.c (.str .empty),.c (.str .empty),.c .nsl,.c .nsl,.c .nsl,.c .nsl]
def Z87:List Pt:=[.c (.lit .u32 0),.v (.arr .u8 32) (.row [0,0,0,0,0,0,0,0,0,0,0,0,0,0,0,0,0,0,0,0,0,0,0,0,0,0,0,0,0,0,0,0])]
def ZS:List (Nat×List Pt):=[(71,Z85),(72,Z85),(78,Z86),(79,Z86),(82,Z85),(86,Z86),(87,Z86),(126,Z87),(127,Z87),(135,Z87),(136,Z87)]
theorem zs71:zOkB (tiOf3 TL TS ES 71) Z85=true:=by kernel_rfl
theorem zs72:zOkB (tiOf3 TL TS ES 72) Z85=true:=by kernel_rfl
theorem zs78:zOkB (tiOf3 TL TS ES 78) Z86=true:=by kernel_rfl
theorem zs79:zOkB (tiOf3 TL TS ES 79) Z86=true:=by kernel_rfl
theorem zs82:zOkB (tiOf3 TL TS ES 82) Z85=true:=by kernel_rfl
theorem zs86:zOkB (tiOf3 TL TS ES 86) Z86=true:=by kernel_rfl
theorem zs87:zOkB (tiOf3 TL TS ES 87) Z86=true:=by kernel_rfl
theorem zs126:zOkB (tiOf3 TL TS ES 126) Z87=true:=by kernel_rfl
theorem zs127:zOkB (tiOf3 TL TS ES 127) Z87=true:=by kernel_rfl
theorem zs135:zOkB (tiOf3 TL TS ES 135) Z87=true:=by kernel_rfl
theorem zs136:zOkB (tiOf3 TL TS ES 136) Z87=true:=by kernel_rfl
def ti0:Nat→TI:=tiOf4 TL TS ES ZS
theorem ti0_ok:TIok Try.prog ti0:=tiOf4_ok tl_ok (fm eqs71 (fm eqs72 (fm eqs82 (fm eqs126 (fm eqs127 (fm eqs132 (fm eqs133 (fm eqs135 (fm eqs136 (fm eqs137 (fm eqs178 (fm eqs179 (nofun))))))))))))) (fm zs71 (fm zs72 (fm zs78 (fm zs79 (fm zs82 (fm zs86 (fm zs87 (fm zs126 (fm zs127 (fm zs135 (fm zs136 (nofun))))))))))))
def G88:TI:={A0 with sh:=some (.int .i64) }
def G89:TI:={A1 with sh:=some .bool}
def G90:TI:={A2 with sh:=some (.int .u8) }
def G91:TI:={A3 with sh:=some W65}
def G92:TI:={A4 with sh:=some .str}
def G93:TI:={A5 with sh:=some (.int .u64) }
def G94:TI:={A6 with sh:=some W66}
def G95:TI:={A11 with sh:=some (.int .i32) }
def G96:TI:={A12 with sh:=some W67}
def G97:TI:={A13 with sh:=some (.arr .u8 32) }
def G98:TI:={A14 with sh:=some W67}
def G99:TI:={A15 with sh:=some W68}
def G100:TI:={A16 with sh:=some (.sl .bool) }
def G101:TI:={A17 with sh:=some W69}
def G102:TI:={A18 with sh:=some W69}
def G103:TI:={A19 with sh:=some W70}
def G104:TI:={A20 with sh:=some (.int .u32) }
def G105:TI:={A21 with sh:=some (.arr .u8 16) }
def G106:TI:={A22 with sh:=some (.int .u16) }
def G107:TI:={A23 with zero:=some (.agg (.prt Z85)),sh:=some W71,eqs:=true}
def G108:TI:={A24 with sh:=some W72}
def G109:TI:={A25 with sh:=some W73}
def G110:TI:={A26 with sh:=some (.sl .str) }
def G111:TI:={A27 with sh:=some W74}
def G112:TI:={A28 with sh:=some W75}
def G113:TI:={A29 with zero:=some (.agg (.prt Z86)),sh:=some W76}
def G114:TI:={A30 with sh:=some W72}
def G115:TI:={A31 with sh:=some W73}
def G116:TI:={A32 with sh:=some W75}
def G117:TI:={A33 with zero:=some (.agg (.prt Z86)),sh:=some W76}
def G118:TI:={A34 with sh:=some W77}
def G119:TI:={A36 with sh:=some W78}
def G120:TI:={A37 with sh:=some W68}
def G121:TI:={A39 with sh:=some W79}
def G122:TI:={A40 with sh:=some W80}
def G123:TI:={A41 with zero:=some (.agg (.prt Z87)),sh:=some W81,eqs:=true}
def G124:TI:={A42 with sh:=some W82,eqs:=true}
def G125:TI:={A43 with zero:=some (.agg (.prt Z87)),sh:=some W81,eqs:=true}
def G126:TI:={A53 with sh:=some W83,eqs:=true}
def G127:TI:={A55 with sh:=some (.arr .u32 8) }
def G128:TI:={A56 with sh:=some (.arr .u8 64) }
def G129:TI:={A58 with sh:=some W84}
def G130:TI:={A59 with sh:=some (.arr .u32 64) }
theorem tf2:ti0 2=G88:=by kernel_rfl
theorem tf3:ti0 3=G88:=by kernel_rfl
theorem tf4:ti0 4=G89:=by kernel_rfl
theorem tf5:ti0 5=G90:=by kernel_rfl
theorem tf6:ti0 6=G90:=by kernel_rfl
theorem tf7:ti0 7=G91:=by kernel_rfl
theorem tf8:ti0 8=G91:=by kernel_rfl
theorem tf9:ti0 9=G92:=by kernel_rfl
theorem tf10:ti0 10=G92:=by kernel_rfl
theorem tf11:ti0 11=G92:=by kernel_rfl
theorem tf12:ti0 12=G93:=by kernel_rfl
theorem tf13:ti0 13=G94:=by kernel_rfl
theorem tf14:ti0 14=G94:=by kernel_rfl
theorem tf15:ti0 15=A7:=by kernel_rfl
theorem tf16:ti0 16=A8:=by kernel_rfl
theorem tf17:ti0 17=A9:=by kernel_rfl
theorem tf18:ti0 18=A10:=by kernel_rfl
theorem tf19:ti0 19=A10:=by kernel_rfl
theorem tf21:ti0 21=G95:=by kernel_rfl
theorem tf22:ti0 22=G96:=by kernel_rfl
theorem tf24:ti0 24=G97:=by kernel_rfl
theorem tf25:ti0 25=G97:=by kernel_rfl
theorem tf30:ti0 30=G98:=by kernel_rfl
theorem tf36:ti0 36=G99:=by kernel_rfl
theorem tf43:ti0 43=G88:=by kernel_rfl
theorem tf51:ti0 51=G100:=by kernel_rfl
theorem tf52:ti0 52=G101:=by kernel_rfl
theorem tf53:ti0 53=G101:=by kernel_rfl
theorem tf56:ti0 56=G102:=by kernel_rfl
theorem tf57:ti0 57=G102:=by kernel_rfl
theorem tf60:ti0 60=G103:=by kernel_rfl
theorem tf67:ti0 67=G104:=by kernel_rfl
theorem tf68:ti0 68=G93:=by kernel_rfl
theorem tf69:ti0 69=G105:=by kernel_rfl
theorem tf70:ti0 70=G106:=by kernel_rfl
theorem tf71:ti0 71=G107:=by kernel_rfl
theorem tf72:ti0 72=G107:=by kernel_rfl
theorem tf73:ti0 73=G108:=by kernel_rfl
theorem tf74:ti0 74=G109:=by kernel_rfl
theorem tf75:ti0 75=G110:=by kernel_rfl
theorem tf76:ti0 76=G111:=by kernel_rfl
theorem tf77:ti0 77=G112:=by kernel_rfl
theorem tf78:ti0 78=G113:=by kernel_rfl
theorem tf79:ti0 79=G113:=by kernel_rfl
theorem tf82:ti0 82=G107:=by kernel_rfl
theorem tf83:ti0 83=G114:=by kernel_rfl
theorem tf84:ti0 84=G115:=by kernel_rfl
theorem tf85:ti0 85=G116:=by kernel_rfl
theorem tf86:ti0 86=G117:=by kernel_rfl
theorem tf87:ti0 87=G117:=by kernel_rfl
theorem tf107:ti0 107=G118:=by kernel_rfl
theorem tf109:ti0 109=A35:=by kernel_rfl
theorem tf110:ti0 110=G119:=by kernel_rfl
theorem tf111:ti0 111=G119:=by kernel_rfl
theorem tf113:ti0 113=G120:=by kernel_rfl
theorem tf116:ti0 116=A38:=by kernel_rfl
theorem tf117:ti0 117=G121:=by kernel_rfl
theorem tf118:ti0 118=G121:=by kernel_rfl
theorem tf120:ti0 120=G122:=by kernel_rfl
theorem tf121:ti0 121=G122:=by kernel_rfl
theorem tf126:ti0 126=G123:=by kernel_rfl
theorem tf127:ti0 127=G123:=by kernel_rfl
theorem tf132:ti0 132=G124:=by kernel_rfl
theorem tf133:ti0 133=G124:=by kernel_rfl
theorem tf135:ti0 135=G125:=by kernel_rfl
theorem tf136:ti0 136=G125:=by kernel_rfl
theorem tf137:ti0 137=G124:=by kernel_rfl
theorem tf140:ti0 140=A44:=by kernel_rfl
theorem tf148:ti0 148=A45:=by kernel_rfl
theorem tf149:ti0 149=A46:=by kernel_rfl
theorem tf151:ti0 151=A47:=by kernel_rfl
theorem tf152:ti0 152=A47:=by kernel_rfl
theorem tf154:ti0 154=A48:=by kernel_rfl
theorem tf157:ti0 157=A49:=by kernel_rfl
theorem tf163:ti0 163=A50:=by kernel_rfl
theorem tf164:ti0 164=A51:=by kernel_rfl
theorem tf165:ti0 165=A51:=by kernel_rfl
theorem tf166:ti0 166=A52:=by kernel_rfl
theorem tf167:ti0 167=A52:=by kernel_rfl
theorem tf178:ti0 178=G126:=by kernel_rfl
theorem tf179:ti0 179=G126:=by kernel_rfl
theorem tf185:ti0 185=A54:=by kernel_rfl
theorem tf187:ti0 187=G127:=by kernel_rfl
theorem tf189:ti0 189=G128:=by kernel_rfl
theorem tf199:ti0 199=G93:=by kernel_rfl
theorem tf200:ti0 200=A57:=by kernel_rfl
theorem tf204:ti0 204=G127:=by kernel_rfl
theorem tf206:ti0 206=G129:=by kernel_rfl
theorem tf207:ti0 207=G129:=by kernel_rfl
theorem tf209:ti0 209=G130:=by kernel_rfl
theorem tf217:ti0 217=A60:=by kernel_rfl
theorem tf218:ti0 218=A61:=by kernel_rfl
theorem tf222:ti0 222=A62:=by kernel_rfl
theorem tf223:ti0 223=A62:=by kernel_rfl
theorem tf224:ti0 224=A63:=by kernel_rfl
theorem tf225:ti0 225=A64:=by kernel_rfl
theorem tf226:ti0 226=A64:=by kernel_rfl
theorem tf227:ti0 227=G90:=by kernel_rfl
theorem tf228:ti0 228=G90:=by kernel_rfl
theorem tf230:ti0 230=G95:=by kernel_rfl
theorem tf231:ti0 231=G95:=by kernel_rfl
def TT:Tr:=(.node 107 G118 (.node 51 G100 (.node 14 G94 (.node 8 G91 (.node 5 G90 (.node 3 G88 (.node 2 G88 .nil .nil) (.node 4 G89 .nil .nil)) (.node 7 G91 (.node 6 G90 .nil .nil) .nil)) (.node 11 G92 (.node 10 G92 (.node 9 G92 .nil .nil) .nil) (.node 13 G94 (.node 12 G93 .nil .nil) .nil))) (.node 22 G96 (.node 18 A10 (.node 16 A8 (.node 15 A7 .nil .nil) (.node 17 A9 .nil .nil)) (.node 21 G95 (.node 19 A10 .nil .nil) .nil)) (.node 30 G98 (.node 25 G97 (.node 24 G97 .nil .nil) .nil) (.node 43 G88 (.node 36 G99 .nil .nil) .nil)))) (.node 74 G109 (.node 68 G93 (.node 57 G102 (.node 53 G101 (.node 52 G101 .nil .nil) (.node 56 G102 .nil .nil)) (.node 67 G104 (.node 60 G103 .nil .nil) .nil)) (.node 71 G107 (.node 70 G106 (.node 69 G105 .nil .nil) .nil) (.node 73 G108 (.node 72 G107 .nil .nil) .nil))) (.node 82 G107 (.node 77 G112 (.node 76 G111 (.node 75 G110 .nil .nil) .nil) (.node 79 G113 (.node 78 G113 .nil .nil) .nil)) (.node 85 G116 (.node 84 G115 (.node 83 G114 .nil .nil) .nil) (.node 87 G117 (.node 86 G117 .nil .nil) .nil))))) (.node 165 A51 (.node 133 G124 (.node 118 G121 (.node 113 G120 (.node 110 G119 (.node 109 A35 .nil .nil) (.node 111 G119 .nil .nil)) (.node 117 G121 (.node 116 A38 .nil .nil) .nil)) (.node 126 G123 (.node 121 G122 (.node 120 G122 .nil .nil) .nil) (.node 132 G124 (.node 127 G123 .nil .nil) .nil))) (.node 151 A47 (.node 140 A44 (.node 136 G125 (.node 135 G125 .nil .nil) (.node 137 G124 .nil .nil)) (.node 149 A46 (.node 148 A45 .nil .nil) .nil)) (.node 157 A49 (.node 154 A48 (.node 152 A47 .nil .nil) .nil) (.node 164 A51 (.node 163 A50 .nil .nil) .nil)))) (.node 209 G130 (.node 189 G128 (.node 179 G126 (.node 167 A52 (.node 166 A52 .nil .nil) (.node 178 G126 .nil .nil)) (.node 187 G127 (.node 185 A54 .nil .nil) .nil)) (.node 204 G127 (.node 200 A57 (.node 199 G93 .nil .nil) .nil) (.node 207 G129 (.node 206 G129 .nil .nil) .nil))) (.node 225 A64 (.node 222 A62 (.node 218 A61 (.node 217 A60 .nil .nil) .nil) (.node 224 A63 (.node 223 A62 .nil .nil) .nil)) (.node 228 G90 (.node 227 G90 (.node 226 A64 .nil .nil) .nil) (.node 231 G95 (.node 230 G95 .nil .nil) .nil))))))
def ti (t:Nat):TI:=trGet t TT
theorem ti_ok:TIok Try.prog ti:=trGet_TIok (T:=TT) ti0_ok ⟨⟨tf107,rfl⟩,⟨⟨tf51,rfl⟩,⟨⟨tf14,rfl⟩,⟨⟨tf8,rfl⟩,⟨⟨tf5,rfl⟩,⟨⟨tf3,rfl⟩,⟨⟨tf2,rfl⟩,trivial,trivial⟩,⟨⟨tf4,rfl⟩,trivial,trivial⟩⟩,⟨⟨tf7,rfl⟩,⟨⟨tf6,rfl⟩,trivial,trivial⟩,trivial⟩⟩,⟨⟨tf11,rfl⟩,⟨⟨tf10,rfl⟩,⟨⟨tf9,rfl⟩,trivial,trivial⟩,trivial⟩,⟨⟨tf13,rfl⟩,⟨⟨tf12,rfl⟩,trivial,trivial⟩,trivial⟩⟩⟩,⟨⟨tf22,rfl⟩,⟨⟨tf18,rfl⟩,⟨⟨tf16,rfl⟩,⟨⟨tf15,rfl⟩,trivial,trivial⟩,⟨⟨tf17,rfl⟩,trivial,trivial⟩⟩,⟨⟨tf21,rfl⟩,⟨⟨tf19,rfl⟩,trivial,trivial⟩,trivial⟩⟩,⟨⟨tf30,rfl⟩,⟨⟨tf25,rfl⟩,⟨⟨tf24,rfl⟩,trivial,trivial⟩,trivial⟩,⟨⟨tf43,rfl⟩,⟨⟨tf36,rfl⟩,trivial,trivial⟩,trivial⟩⟩⟩⟩,⟨⟨tf74,rfl⟩,⟨⟨tf68,rfl⟩,⟨⟨tf57,rfl⟩,⟨⟨tf53,rfl⟩,⟨⟨tf52,rfl⟩,trivial,trivial⟩,⟨⟨tf56,rfl⟩,trivial,trivial⟩⟩,⟨⟨tf67,rfl⟩,⟨⟨tf60,rfl⟩,trivial,trivial⟩,trivial⟩⟩,⟨⟨tf71,rfl⟩,⟨⟨tf70,rfl⟩,⟨⟨tf69,rfl⟩,trivial,trivial⟩,trivial⟩,⟨⟨tf73,rfl⟩,⟨⟨tf72,rfl⟩,trivial,trivial⟩,trivial⟩⟩⟩,⟨⟨tf82,rfl⟩,⟨⟨tf77,rfl⟩,⟨⟨tf76,rfl⟩,⟨⟨tf75,rfl⟩,trivial,trivial⟩,trivial⟩,⟨⟨tf79,rfl⟩,⟨⟨tf78,rfl⟩,trivial,trivial⟩,trivial⟩⟩,⟨⟨tf85,rfl⟩,⟨⟨tf84,rfl⟩,⟨⟨tf83,rfl⟩,trivial,trivial⟩,trivial⟩,⟨⟨tf87,rfl⟩,⟨⟨tf86,rfl⟩,trivial,trivial⟩,trivial⟩⟩⟩⟩⟩,⟨⟨tf165,rfl⟩,⟨⟨tf133,rfl⟩,⟨⟨tf118,rfl⟩,⟨⟨tf113,rfl⟩,⟨⟨tf110,rfl⟩,⟨⟨tf109,rfl⟩,trivial,trivial⟩,⟨⟨tf111,rfl⟩,trivial,trivial⟩⟩,⟨⟨tf117,rfl⟩,⟨⟨tf116,rfl⟩,trivial,trivial⟩,trivial⟩⟩,⟨⟨tf126,rfl⟩,⟨⟨tf121,rfl⟩,⟨⟨tf120,rfl⟩,trivial,trivial⟩,trivial⟩,⟨⟨tf132,rfl⟩,⟨⟨tf127,rfl⟩,trivial,trivial⟩,trivial⟩⟩⟩,⟨⟨tf151,rfl⟩,⟨⟨tf140,rfl⟩,⟨⟨tf136,rfl⟩,⟨⟨tf135,rfl⟩,trivial,trivial⟩,⟨⟨tf137,rfl⟩,trivial,trivial⟩⟩,⟨⟨tf149,rfl⟩,⟨⟨tf148,rfl⟩,trivial,trivial⟩,trivial⟩⟩,⟨⟨tf157,rfl⟩,⟨⟨tf154,rfl⟩,⟨⟨tf152,rfl⟩,trivial,trivial⟩,trivial⟩,⟨⟨tf164,rfl⟩,⟨⟨tf163,rfl⟩,trivial,trivial⟩,trivial⟩⟩⟩⟩,⟨⟨tf209,rfl⟩,⟨⟨tf189,rfl⟩,⟨⟨tf179,rfl⟩,⟨⟨tf167,rfl⟩,⟨⟨tf166,rfl⟩,trivial,trivial⟩,⟨⟨tf178,rfl⟩,trivial,trivial⟩⟩,⟨⟨tf187,rfl⟩,⟨⟨tf185,rfl⟩,trivial,trivial⟩,trivial⟩⟩,⟨⟨tf204,rfl⟩,⟨⟨tf200,rfl⟩,⟨⟨tf199,rfl⟩,trivial,trivial⟩,trivial⟩,⟨⟨tf207,rfl⟩,⟨⟨tf206,rfl⟩,trivial,trivial⟩,trivial⟩⟩⟩,⟨⟨tf225,rfl⟩,⟨⟨tf222,rfl⟩,⟨⟨tf218,rfl⟩,⟨⟨tf217,rfl⟩,trivial,trivial⟩,trivial⟩,⟨⟨tf224,rfl⟩,⟨⟨tf223,rfl⟩,trivial,trivial⟩,trivial⟩⟩,⟨⟨tf228,rfl⟩,⟨⟨tf227,rfl⟩,⟨⟨tf226,rfl⟩,trivial,trivial⟩,trivial⟩,⟨⟨tf231,rfl⟩,⟨⟨tf230,rfl⟩,trivial,trivial⟩,trivial⟩⟩⟩⟩⟩⟩
end Go.Proofs.Ytlbllaocdilafaa
