import Derived.Test.YtlbllaocdilafaaZ15
set_option linter.unusedSimpArgs false
set_option linter.unusedVariables false
set_option maxRecDepth 100000
set_option maxHeartbeats 4000000
namespace Go.Eng
open Go
def MS:Sh:=(.two (.int .i64) (.two (.int .u32) (.two (.int .u64) (.two (.int .u64) (.two (.int .i64) (.two (.two (.int .u32) (.two (.int .u64) (.two (.arr .u8 16) (.int .u16)))) (.two (.two (.int .u32) (.two (.int .u64) (.two (.arr .u8 16) (.int .u16)))) (.two (.str) (.two (.int .u32) (.two (.bool) (.two (.bool) (.two (.sl (.two (.int .u32) (.two (.int .u64) (.two (.arr .u8 16) (.int .u16))))) (.two (.sl (.two (.int .u32) (.arr .u8 32))) (.two (.sl (.arr .u8 32)) (.two (.arr .u8 32) (.two (.arr .u8 32) (.two (.sl .str) (.two (.str) (.two (.str) (.two (.sl (.int .u64)) (.two (.sl (.two (.int .i64) .str)) (.two (.sl (.int .i64)) (.sl .str)))))))))))))))))))))))
@[reducible] def MD (a0:Int) (a1:Int) (a2:Int) (a3:Int) (a4:Int) (a5t:Int) (a5s:Int) (a5i:List Int) (a5p:Int) (a6t:Int) (a6s:Int) (a6i:List Int) (a6p:Int) (a7:ByteArray) (a8:Int) (a9:Bool) (a10:Bool) (a11:List D) (a12:List D) (a13:List D) (a14:List Int) (a15:List Int) (a16:List D) (a17:ByteArray) (a18:ByteArray) (a19:List D) (a20:List D) (a21:List D) (a22:List D):D:=(.pair (.int a0) (.pair (.int a1) (.pair (.int a2) (.pair (.int a3) (.pair (.int a4) (.pair (.pair (.int a5t) (.pair (.int a5s) (.pair (.row a5i) (.int a5p)))) (.pair (.pair (.int a6t) (.pair (.int a6s) (.pair (.row a6i) (.int a6p)))) (.pair (.str a7) (.pair (.int a8) (.pair (.bool a9) (.pair (.bool a10) (.pair (.sl a11) (.pair (.sl a12) (.pair (.sl a13) (.pair (.row a14) (.pair (.row a15) (.pair (.sl a16) (.pair (.str a17) (.pair (.str a18) (.pair (.sl a19) (.pair (.sl a20) (.pair (.sl a21) (.sl a22)))))))))))))))))))))))
structure Nt where
 t:Int
 s:Int
 ip:List Int
 p:Int
def Nt.D (n:Nt):D:=.pair (.int n.t) (.pair (.int n.s) (.pair (.row n.ip) (.int n.p)))
structure Ms where
 kind:Int
 ver:Int
 srv:Int
 non:Int
 tim:Int
 to:Nt
 frm:Nt
 agent:ByteArray
 hgt:Int
 rel:Bool
 high:Bool
 addrs:List D
 items:List D
 hashes:List D
 stop:List Int
 hash:List Int
 heads:List D
 head:ByteArray
 raw:ByteArray
 shorts:List D
 filled:List D
 places:List D
 raws:List D
def Ms.D (m:Ms):D:=(.pair (.int m.kind) (.pair (.int m.ver) (.pair (.int m.srv) (.pair (.int m.non) (.pair (.int m.tim) (.pair (m.to).D (.pair (m.frm).D (.pair (.str m.agent) (.pair (.int m.hgt) (.pair (.bool m.rel) (.pair (.bool m.high) (.pair (.sl m.addrs) (.pair (.sl m.items) (.pair (.sl m.hashes) (.pair (.row m.stop) (.pair (.row m.hash) (.pair (.sl m.heads) (.pair (.str m.head) (.pair (.str m.raw) (.pair (.sl m.shorts) (.pair (.sl m.filled) (.pair (.sl m.places) (.sl m.raws)))))))))))))))))))))))
structure Ms.ok (m:Ms):Prop where
 to:m.to.ip.length=16
 frm:m.frm.ip.length=16
 stop:m.stop.length=32
 hash:m.hash.length=32
 addrs:m.addrs.length≤4611686018427387904
 items:m.items.length≤4611686018427387904
 hashes:m.hashes.length≤4611686018427387904
 heads:m.heads.length≤4611686018427387904
 shorts:m.shorts.length≤4611686018427387904
 filled:m.filled.length≤4611686018427387904
 places:m.places.length≤4611686018427387904
 raws:m.raws.length≤4611686018427387904
def mOk (d:D):Prop:=∃m:Ms,d=m.D∧m.ok
structure LQm extends LE1 where
 mOk:D→Prop
def lqmR:LQm where
 toLE1:=leR
 mOk:=mOk
theorem eqD_sl {s:Sh}{x y:List D}:eqL s x y=eqD (.sl s) (.sl x) (.sl y):=rfl
section
variable {a0 a1 a2 a3 a4 a5t a5s:Int}{a5i:List Int}{a5p a6t a6s:Int}{a6i:List Int}{a6p:Int}{a7:ByteArray}{a8:Int}{a9 a10:Bool}{a11 a12 a13:List D}{a14 a15:List Int}{a16:List D}{a17 a18:ByteArray}{a19 a20 a21 a22:List D}{b0 b1 b2 b3 b4 b5t b5s:Int}{b5i:List Int}{b5p b6t b6s:Int}{b6i:List Int}{b6p:Int}{b7:ByteArray}{b8:Int}{b9 b10:Bool}{b11 b12 b13:List D}{b14 b15:List Int}{b16:List D}{b17 b18:ByteArray}{b19 b20 b21 b22:List D}
theorem eqM_iff:eqD MS (MD a0 a1 a2 a3 a4 a5t a5s a5i a5p a6t a6s a6i a6p a7 a8 a9 a10 a11 a12 a13 a14 a15 a16 a17 a18 a19 a20 a21 a22) (MD b0 b1 b2 b3 b4 b5t b5s b5i b5p b6t b6s b6i b6p b7 b8 b9 b10 b11 b12 b13 b14 b15 b16 b17 b18 b19 b20 b21 b22)=true↔eqD (.int .i64) (.int a0) (.int b0)=true∧eqD (.int .u32) (.int a1) (.int b1)=true∧eqD (.int .u64) (.int a2) (.int b2)=true∧eqD (.int .u64) (.int a3) (.int b3)=true∧eqD (.int .i64) (.int a4) (.int b4)=true∧eqD (.two (.int .u32) (.two (.int .u64) (.two (.arr .u8 16) (.int .u16)))) (.pair (.int a5t) (.pair (.int a5s) (.pair (.row a5i) (.int a5p)))) (.pair (.int b5t) (.pair (.int b5s) (.pair (.row b5i) (.int b5p))))=true∧eqD (.two (.int .u32) (.two (.int .u64) (.two (.arr .u8 16) (.int .u16)))) (.pair (.int a6t) (.pair (.int a6s) (.pair (.row a6i) (.int a6p)))) (.pair (.int b6t) (.pair (.int b6s) (.pair (.row b6i) (.int b6p))))=true∧eqD (.str) (.str a7) (.str b7)=true∧eqD (.int .u32) (.int a8) (.int b8)=true∧eqD (.bool) (.bool a9) (.bool b9)=true∧eqD (.bool) (.bool a10) (.bool b10)=true∧eqD (.sl (.two (.int .u32) (.two (.int .u64) (.two (.arr .u8 16) (.int .u16))))) (.sl a11) (.sl b11)=true∧eqD (.sl (.two (.int .u32) (.arr .u8 32))) (.sl a12) (.sl b12)=true∧eqD (.sl (.arr .u8 32)) (.sl a13) (.sl b13)=true∧eqD (.arr .u8 32) (.row a14) (.row b14)=true∧eqD (.arr .u8 32) (.row a15) (.row b15)=true∧eqD (.sl .str) (.sl a16) (.sl b16)=true∧eqD (.str) (.str a17) (.str b17)=true∧eqD (.str) (.str a18) (.str b18)=true∧eqD (.sl (.int .u64)) (.sl a19) (.sl b19)=true∧eqD (.sl (.two (.int .i64) .str)) (.sl a20) (.sl b20)=true∧eqD (.sl (.int .i64)) (.sl a21) (.sl b21)=true∧eqD (.sl .str) (.sl a22) (.sl b22)=true:=by
 show(eqD (.int .i64) (.int a0) (.int b0)&&(eqD (.int .u32) (.int a1) (.int b1)&&(eqD (.int .u64) (.int a2) (.int b2)&&(eqD (.int .u64) (.int a3) (.int b3)&&(eqD (.int .i64) (.int a4) (.int b4)&&(eqD (.two (.int .u32) (.two (.int .u64) (.two (.arr .u8 16) (.int .u16)))) (.pair (.int a5t) (.pair (.int a5s) (.pair (.row a5i) (.int a5p)))) (.pair (.int b5t) (.pair (.int b5s) (.pair (.row b5i) (.int b5p))))&&(eqD (.two (.int .u32) (.two (.int .u64) (.two (.arr .u8 16) (.int .u16)))) (.pair (.int a6t) (.pair (.int a6s) (.pair (.row a6i) (.int a6p)))) (.pair (.int b6t) (.pair (.int b6s) (.pair (.row b6i) (.int b6p))))&&(eqD (.str) (.str a7) (.str b7)&&(eqD (.int .u32) (.int a8) (.int b8)&&(eqD (.bool) (.bool a9) (.bool b9)&&(eqD (.bool) (.bool a10) (.bool b10)&&(eqD (.sl (.two (.int .u32) (.two (.int .u64) (.two (.arr .u8 16) (.int .u16))))) (.sl a11) (.sl b11)&&(eqD (.sl (.two (.int .u32) (.arr .u8 32))) (.sl a12) (.sl b12)&&(eqD (.sl (.arr .u8 32)) (.sl a13) (.sl b13)&&(eqD (.arr .u8 32) (.row a14) (.row b14)&&(eqD (.arr .u8 32) (.row a15) (.row b15)&&(eqD (.sl .str) (.sl a16) (.sl b16)&&(eqD (.str) (.str a17) (.str b17)&&(eqD (.str) (.str a18) (.str b18)&&(eqD (.sl (.int .u64)) (.sl a19) (.sl b19)&&(eqD (.sl (.two (.int .i64) .str)) (.sl a20) (.sl b20)&&(eqD (.sl (.int .i64)) (.sl a21) (.sl b21)&&(eqD (.sl .str) (.sl a22) (.sl b22))))))))))))))))))))))))=true↔_
 simp only[bat]
theorem eqM_no0 (h:¬eqD (.int .i64) (.int a0) (.int b0)=true):eqD MS (MD a0 a1 a2 a3 a4 a5t a5s a5i a5p a6t a6s a6i a6p a7 a8 a9 a10 a11 a12 a13 a14 a15 a16 a17 a18 a19 a20 a21 a22) (MD b0 b1 b2 b3 b4 b5t b5s b5i b5p b6t b6s b6i b6p b7 b8 b9 b10 b11 b12 b13 b14 b15 b16 b17 b18 b19 b20 b21 b22)=false:=Bool.eq_false_iff.2 fun e=>h (eqM_iff.1 e).1
theorem eqM_no1 (h:¬eqD (.int .u32) (.int a1) (.int b1)=true):eqD MS (MD a0 a1 a2 a3 a4 a5t a5s a5i a5p a6t a6s a6i a6p a7 a8 a9 a10 a11 a12 a13 a14 a15 a16 a17 a18 a19 a20 a21 a22) (MD b0 b1 b2 b3 b4 b5t b5s b5i b5p b6t b6s b6i b6p b7 b8 b9 b10 b11 b12 b13 b14 b15 b16 b17 b18 b19 b20 b21 b22)=false:=Bool.eq_false_iff.2 fun e=>h (eqM_iff.1 e).2.1
theorem eqM_no2 (h:¬eqD (.int .u64) (.int a2) (.int b2)=true):eqD MS (MD a0 a1 a2 a3 a4 a5t a5s a5i a5p a6t a6s a6i a6p a7 a8 a9 a10 a11 a12 a13 a14 a15 a16 a17 a18 a19 a20 a21 a22) (MD b0 b1 b2 b3 b4 b5t b5s b5i b5p b6t b6s b6i b6p b7 b8 b9 b10 b11 b12 b13 b14 b15 b16 b17 b18 b19 b20 b21 b22)=false:=Bool.eq_false_iff.2 fun e=>h (eqM_iff.1 e).2.2.1
theorem eqM_no3 (h:¬eqD (.int .u64) (.int a3) (.int b3)=true):eqD MS (MD a0 a1 a2 a3 a4 a5t a5s a5i a5p a6t a6s a6i a6p a7 a8 a9 a10 a11 a12 a13 a14 a15 a16 a17 a18 a19 a20 a21 a22) (MD b0 b1 b2 b3 b4 b5t b5s b5i b5p b6t b6s b6i b6p b7 b8 b9 b10 b11 b12 b13 b14 b15 b16 b17 b18 b19 b20 b21 b22)=false:=Bool.eq_false_iff.2 fun e=>h (eqM_iff.1 e).2.2.2.1
theorem eqM_no4 (h:¬eqD (.int .i64) (.int a4) (.int b4)=true):eqD MS (MD a0 a1 a2 a3 a4 a5t a5s a5i a5p a6t a6s a6i a6p a7 a8 a9 a10 a11 a12 a13 a14 a15 a16 a17 a18 a19 a20 a21 a22) (MD b0 b1 b2 b3 b4 b5t b5s b5i b5p b6t b6s b6i b6p b7 b8 b9 b10 b11 b12 b13 b14 b15 b16 b17 b18 b19 b20 b21 b22)=false:=Bool.eq_false_iff.2 fun e=>h (eqM_iff.1 e).2.2.2.2.1
theorem eqM_no5 (h:¬eqD (.two (.int .u32) (.two (.int .u64) (.two (.arr .u8 16) (.int .u16)))) (.pair (.int a5t) (.pair (.int a5s) (.pair (.row a5i) (.int a5p)))) (.pair (.int b5t) (.pair (.int b5s) (.pair (.row b5i) (.int b5p))))=true):eqD MS (MD a0 a1 a2 a3 a4 a5t a5s a5i a5p a6t a6s a6i a6p a7 a8 a9 a10 a11 a12 a13 a14 a15 a16 a17 a18 a19 a20 a21 a22) (MD b0 b1 b2 b3 b4 b5t b5s b5i b5p b6t b6s b6i b6p b7 b8 b9 b10 b11 b12 b13 b14 b15 b16 b17 b18 b19 b20 b21 b22)=false:=Bool.eq_false_iff.2 fun e=>h (eqM_iff.1 e).2.2.2.2.2.1
theorem eqM_no6 (h:¬eqD (.two (.int .u32) (.two (.int .u64) (.two (.arr .u8 16) (.int .u16)))) (.pair (.int a6t) (.pair (.int a6s) (.pair (.row a6i) (.int a6p)))) (.pair (.int b6t) (.pair (.int b6s) (.pair (.row b6i) (.int b6p))))=true):eqD MS (MD a0 a1 a2 a3 a4 a5t a5s a5i a5p a6t a6s a6i a6p a7 a8 a9 a10 a11 a12 a13 a14 a15 a16 a17 a18 a19 a20 a21 a22) (MD b0 b1 b2 b3 b4 b5t b5s b5i b5p b6t b6s b6i b6p b7 b8 b9 b10 b11 b12 b13 b14 b15 b16 b17 b18 b19 b20 b21 b22)=false:=Bool.eq_false_iff.2 fun e=>h (eqM_iff.1 e).2.2.2.2.2.2.1
theorem eqM_no7 (h:¬eqD (.str) (.str a7) (.str b7)=true):eqD MS (MD a0 a1 a2 a3 a4 a5t a5s a5i a5p a6t a6s a6i a6p a7 a8 a9 a10 a11 a12 a13 a14 a15 a16 a17 a18 a19 a20 a21 a22) (MD b0 b1 b2 b3 b4 b5t b5s b5i b5p b6t b6s b6i b6p b7 b8 b9 b10 b11 b12 b13 b14 b15 b16 b17 b18 b19 b20 b21 b22)=false:=Bool.eq_false_iff.2 fun e=>h (eqM_iff.1 e).2.2.2.2.2.2.2.1
theorem eqM_no8 (h:¬eqD (.int .u32) (.int a8) (.int b8)=true):eqD MS (MD a0 a1 a2 a3 a4 a5t a5s a5i a5p a6t a6s a6i a6p a7 a8 a9 a10 a11 a12 a13 a14 a15 a16 a17 a18 a19 a20 a21 a22) (MD b0 b1 b2 b3 b4 b5t b5s b5i b5p b6t b6s b6i b6p b7 b8 b9 b10 b11 b12 b13 b14 b15 b16 b17 b18 b19 b20 b21 b22)=false:=Bool.eq_false_iff.2 fun e=>h (eqM_iff.1 e).2.2.2.2.2.2.2.2.1
theorem eqM_no9 (h:¬eqD (.bool) (.bool a9) (.bool b9)=true):eqD MS (MD a0 a1 a2 a3 a4 a5t a5s a5i a5p a6t a6s a6i a6p a7 a8 a9 a10 a11 a12 a13 a14 a15 a16 a17 a18 a19 a20 a21 a22) (MD b0 b1 b2 b3 b4 b5t b5s b5i b5p b6t b6s b6i b6p b7 b8 b9 b10 b11 b12 b13 b14 b15 b16 b17 b18 b19 b20 b21 b22)=false:=Bool.eq_false_iff.2 fun e=>h (eqM_iff.1 e).2.2.2.2.2.2.2.2.2.1
theorem eqM_no10 (h:¬eqD (.bool) (.bool a10) (.bool b10)=true):eqD MS (MD a0 a1 a2 a3 a4 a5t a5s a5i a5p a6t a6s a6i a6p a7 a8 a9 a10 a11 a12 a13 a14 a15 a16 a17 a18 a19 a20 a21 a22) (MD b0 b1 b2 b3 b4 b5t b5s b5i b5p b6t b6s b6i b6p b7 b8 b9 b10 b11 b12 b13 b14 b15 b16 b17 b18 b19 b20 b21 b22)=false:=Bool.eq_false_iff.2 fun e=>h (eqM_iff.1 e).2.2.2.2.2.2.2.2.2.2.1
theorem eqM_no11 (h:¬eqD (.sl (.two (.int .u32) (.two (.int .u64) (.two (.arr .u8 16) (.int .u16))))) (.sl a11) (.sl b11)=true):eqD MS (MD a0 a1 a2 a3 a4 a5t a5s a5i a5p a6t a6s a6i a6p a7 a8 a9 a10 a11 a12 a13 a14 a15 a16 a17 a18 a19 a20 a21 a22) (MD b0 b1 b2 b3 b4 b5t b5s b5i b5p b6t b6s b6i b6p b7 b8 b9 b10 b11 b12 b13 b14 b15 b16 b17 b18 b19 b20 b21 b22)=false:=Bool.eq_false_iff.2 fun e=>h (eqM_iff.1 e).2.2.2.2.2.2.2.2.2.2.2.1
theorem eqM_no12 (h:¬eqD (.sl (.two (.int .u32) (.arr .u8 32))) (.sl a12) (.sl b12)=true):eqD MS (MD a0 a1 a2 a3 a4 a5t a5s a5i a5p a6t a6s a6i a6p a7 a8 a9 a10 a11 a12 a13 a14 a15 a16 a17 a18 a19 a20 a21 a22) (MD b0 b1 b2 b3 b4 b5t b5s b5i b5p b6t b6s b6i b6p b7 b8 b9 b10 b11 b12 b13 b14 b15 b16 b17 b18 b19 b20 b21 b22)=false:=Bool.eq_false_iff.2 fun e=>h (eqM_iff.1 e).2.2.2.2.2.2.2.2.2.2.2.2.1
theorem eqM_no13 (h:¬eqD (.sl (.arr .u8 32)) (.sl a13) (.sl b13)=true):eqD MS (MD a0 a1 a2 a3 a4 a5t a5s a5i a5p a6t a6s a6i a6p a7 a8 a9 a10 a11 a12 a13 a14 a15 a16 a17 a18 a19 a20 a21 a22) (MD b0 b1 b2 b3 b4 b5t b5s b5i b5p b6t b6s b6i b6p b7 b8 b9 b10 b11 b12 b13 b14 b15 b16 b17 b18 b19 b20 b21 b22)=false:=Bool.eq_false_iff.2 fun e=>h (eqM_iff.1 e).2.2.2.2.2.2.2.2.2.2.2.2.2.1
theorem eqM_no14 (h:¬eqD (.arr .u8 32) (.row a14) (.row b14)=true):eqD MS (MD a0 a1 a2 a3 a4 a5t a5s a5i a5p a6t a6s a6i a6p a7 a8 a9 a10 a11 a12 a13 a14 a15 a16 a17 a18 a19 a20 a21 a22) (MD b0 b1 b2 b3 b4 b5t b5s b5i b5p b6t b6s b6i b6p b7 b8 b9 b10 b11 b12 b13 b14 b15 b16 b17 b18 b19 b20 b21 b22)=false:=Bool.eq_false_iff.2 fun e=>h (eqM_iff.1 e).2.2.2.2.2.2.2.2.2.2.2.2.2.2.1
theorem eqM_no15 (h:¬eqD (.arr .u8 32) (.row a15) (.row b15)=true):eqD MS (MD a0 a1 a2 a3 a4 a5t a5s a5i a5p a6t a6s a6i a6p a7 a8 a9 a10 a11 a12 a13 a14 a15 a16 a17 a18 a19 a20 a21 a22) (MD b0 b1 b2 b3 b4 b5t b5s b5i b5p b6t b6s b6i b6p b7 b8 b9 b10 b11 b12 b13 b14 b15 b16 b17 b18 b19 b20 b21 b22)=false:=Bool.eq_false_iff.2 fun e=>h (eqM_iff.1 e).2.2.2.2.2.2.2.2.2.2.2.2.2.2.2.1
theorem eqM_no16 (h:¬eqD (.sl .str) (.sl a16) (.sl b16)=true):eqD MS (MD a0 a1 a2 a3 a4 a5t a5s a5i a5p a6t a6s a6i a6p a7 a8 a9 a10 a11 a12 a13 a14 a15 a16 a17 a18 a19 a20 a21 a22) (MD b0 b1 b2 b3 b4 b5t b5s b5i b5p b6t b6s b6i b6p b7 b8 b9 b10 b11 b12 b13 b14 b15 b16 b17 b18 b19 b20 b21 b22)=false:=Bool.eq_false_iff.2 fun e=>h (eqM_iff.1 e).2.2.2.2.2.2.2.2.2.2.2.2.2.2.2.2.1
theorem eqM_no17 (h:¬eqD (.str) (.str a17) (.str b17)=true):eqD MS (MD a0 a1 a2 a3 a4 a5t a5s a5i a5p a6t a6s a6i a6p a7 a8 a9 a10 a11 a12 a13 a14 a15 a16 a17 a18 a19 a20 a21 a22) (MD b0 b1 b2 b3 b4 b5t b5s b5i b5p b6t b6s b6i b6p b7 b8 b9 b10 b11 b12 b13 b14 b15 b16 b17 b18 b19 b20 b21 b22)=false:=Bool.eq_false_iff.2 fun e=>h (eqM_iff.1 e).2.2.2.2.2.2.2.2.2.2.2.2.2.2.2.2.2.1
theorem eqM_no18 (h:¬eqD (.str) (.str a18) (.str b18)=true):eqD MS (MD a0 a1 a2 a3 a4 a5t a5s a5i a5p a6t a6s a6i a6p a7 a8 a9 a10 a11 a12 a13 a14 a15 a16 a17 a18 a19 a20 a21 a22) (MD b0 b1 b2 b3 b4 b5t b5s b5i b5p b6t b6s b6i b6p b7 b8 b9 b10 b11 b12 b13 b14 b15 b16 b17 b18 b19 b20 b21 b22)=false:=Bool.eq_false_iff.2 fun e=>h (eqM_iff.1 e).2.2.2.2.2.2.2.2.2.2.2.2.2.2.2.2.2.2.1
theorem eqM_no19 (h:¬eqD (.sl (.int .u64)) (.sl a19) (.sl b19)=true):eqD MS (MD a0 a1 a2 a3 a4 a5t a5s a5i a5p a6t a6s a6i a6p a7 a8 a9 a10 a11 a12 a13 a14 a15 a16 a17 a18 a19 a20 a21 a22) (MD b0 b1 b2 b3 b4 b5t b5s b5i b5p b6t b6s b6i b6p b7 b8 b9 b10 b11 b12 b13 b14 b15 b16 b17 b18 b19 b20 b21 b22)=false:=Bool.eq_false_iff.2 fun e=>h (eqM_iff.1 e).2.2.2.2.2.2.2.2.2.2.2.2.2.2.2.2.2.2.2.1
theorem eqM_no20 (h:¬eqD (.sl (.two (.int .i64) .str)) (.sl a20) (.sl b20)=true):eqD MS (MD a0 a1 a2 a3 a4 a5t a5s a5i a5p a6t a6s a6i a6p a7 a8 a9 a10 a11 a12 a13 a14 a15 a16 a17 a18 a19 a20 a21 a22) (MD b0 b1 b2 b3 b4 b5t b5s b5i b5p b6t b6s b6i b6p b7 b8 b9 b10 b11 b12 b13 b14 b15 b16 b17 b18 b19 b20 b21 b22)=false:=Bool.eq_false_iff.2 fun e=>h (eqM_iff.1 e).2.2.2.2.2.2.2.2.2.2.2.2.2.2.2.2.2.2.2.2.1
theorem eqM_no21 (h:¬eqD (.sl (.int .i64)) (.sl a21) (.sl b21)=true):eqD MS (MD a0 a1 a2 a3 a4 a5t a5s a5i a5p a6t a6s a6i a6p a7 a8 a9 a10 a11 a12 a13 a14 a15 a16 a17 a18 a19 a20 a21 a22) (MD b0 b1 b2 b3 b4 b5t b5s b5i b5p b6t b6s b6i b6p b7 b8 b9 b10 b11 b12 b13 b14 b15 b16 b17 b18 b19 b20 b21 b22)=false:=Bool.eq_false_iff.2 fun e=>h (eqM_iff.1 e).2.2.2.2.2.2.2.2.2.2.2.2.2.2.2.2.2.2.2.2.2.1
theorem eqM_no22 (h:¬eqD (.sl .str) (.sl a22) (.sl b22)=true):eqD MS (MD a0 a1 a2 a3 a4 a5t a5s a5i a5p a6t a6s a6i a6p a7 a8 a9 a10 a11 a12 a13 a14 a15 a16 a17 a18 a19 a20 a21 a22) (MD b0 b1 b2 b3 b4 b5t b5s b5i b5p b6t b6s b6i b6p b7 b8 b9 b10 b11 b12 b13 b14 b15 b16 b17 b18 b19 b20 b21 b22)=false:=Bool.eq_false_iff.2 fun e=>h (eqM_iff.1 e).2.2.2.2.2.2.2.2.2.2.2.2.2.2.2.2.2.2.2.2.2.2
end
section
variable {a0 a1 a2 a3 a4 a5t a5s:Int}{a5i:List Int}{a5p a6t a6s:Int}{a6i:List Int}{a6p:Int}{a7:ByteArray}{a8:Int}{a9 a10:Bool}{a11 a12 a13:List D}{a14 a15:List Int}{a16:List D}{a17 a18:ByteArray}{a19 a20 a21 a22:List D}{b0 b1 b2 b3 b4 b5t b5s:Int}{b5i:List Int}{b5p b6t b6s:Int}{b6i:List Int}{b6p:Int}{b7:ByteArray}{b8:Int}{b9 b10:Bool}{b11 b12 b13:List D}{b14 b15:List Int}{b16:List D}{b17 b18:ByteArray}{b19 b20 b21 b22:List D}
theorem eqR5:eqD (.two (.int .u32) (.two (.int .u64) (.two (.arr .u8 16) (.int .u16)))) (.pair (.int a5t) (.pair (.int a5s) (.pair (.row a5i) (.int a5p)))) (.pair (.int b5t) (.pair (.int b5s) (.pair (.row b5i) (.int b5p))))=(decide (a5t=b5t)&&(decide (a5s=b5s)&&([a5i.getD 0 0,a5i.getD 1 0,a5i.getD 2 0,a5i.getD 3 0,a5i.getD 4 0,a5i.getD 5 0,a5i.getD 6 0,a5i.getD 7 0,a5i.getD 8 0,a5i.getD 9 0,a5i.getD 10 0,a5i.getD 11 0,a5i.getD 12 0,a5i.getD 13 0,a5i.getD 14 0,a5i.getD 15 0] == [b5i.getD 0 0,b5i.getD 1 0,b5i.getD 2 0,b5i.getD 3 0,b5i.getD 4 0,b5i.getD 5 0,b5i.getD 6 0,b5i.getD 7 0,b5i.getD 8 0,b5i.getD 9 0,b5i.getD 10 0,b5i.getD 11 0,b5i.getD 12 0,b5i.getD 13 0,b5i.getD 14 0,b5i.getD 15 0]&&decide (a5p=b5p)))):=rfl
theorem eqR6:eqD (.two (.int .u32) (.two (.int .u64) (.two (.arr .u8 16) (.int .u16)))) (.pair (.int a6t) (.pair (.int a6s) (.pair (.row a6i) (.int a6p)))) (.pair (.int b6t) (.pair (.int b6s) (.pair (.row b6i) (.int b6p))))=(decide (a6t=b6t)&&(decide (a6s=b6s)&&([a6i.getD 0 0,a6i.getD 1 0,a6i.getD 2 0,a6i.getD 3 0,a6i.getD 4 0,a6i.getD 5 0,a6i.getD 6 0,a6i.getD 7 0,a6i.getD 8 0,a6i.getD 9 0,a6i.getD 10 0,a6i.getD 11 0,a6i.getD 12 0,a6i.getD 13 0,a6i.getD 14 0,a6i.getD 15 0] == [b6i.getD 0 0,b6i.getD 1 0,b6i.getD 2 0,b6i.getD 3 0,b6i.getD 4 0,b6i.getD 5 0,b6i.getD 6 0,b6i.getD 7 0,b6i.getD 8 0,b6i.getD 9 0,b6i.getD 10 0,b6i.getD 11 0,b6i.getD 12 0,b6i.getD 13 0,b6i.getD 14 0,b6i.getD 15 0]&&decide (a6p=b6p)))):=rfl
theorem eqR7:eqD (.str) (.str a7) (.str b7)=(a7.toList == b7.toList):=rfl
theorem eqR9:eqD (.bool) (.bool a9) (.bool b9)=(a9 == b9):=rfl
theorem eqR10:eqD (.bool) (.bool a10) (.bool b10)=(a10 == b10):=rfl
theorem eqR14:eqD (.arr .u8 32) (.row a14) (.row b14)=([a14.getD 0 0,a14.getD 1 0,a14.getD 2 0,a14.getD 3 0,a14.getD 4 0,a14.getD 5 0,a14.getD 6 0,a14.getD 7 0,a14.getD 8 0,a14.getD 9 0,a14.getD 10 0,a14.getD 11 0,a14.getD 12 0,a14.getD 13 0,a14.getD 14 0,a14.getD 15 0,a14.getD 16 0,a14.getD 17 0,a14.getD 18 0,a14.getD 19 0,a14.getD 20 0,a14.getD 21 0,a14.getD 22 0,a14.getD 23 0,a14.getD 24 0,a14.getD 25 0,a14.getD 26 0,a14.getD 27 0,a14.getD 28 0,a14.getD 29 0,a14.getD 30 0,a14.getD 31 0] == [b14.getD 0 0,b14.getD 1 0,b14.getD 2 0,b14.getD 3 0,b14.getD 4 0,b14.getD 5 0,b14.getD 6 0,b14.getD 7 0,b14.getD 8 0,b14.getD 9 0,b14.getD 10 0,b14.getD 11 0,b14.getD 12 0,b14.getD 13 0,b14.getD 14 0,b14.getD 15 0,b14.getD 16 0,b14.getD 17 0,b14.getD 18 0,b14.getD 19 0,b14.getD 20 0,b14.getD 21 0,b14.getD 22 0,b14.getD 23 0,b14.getD 24 0,b14.getD 25 0,b14.getD 26 0,b14.getD 27 0,b14.getD 28 0,b14.getD 29 0,b14.getD 30 0,b14.getD 31 0]):=rfl
theorem eqR15:eqD (.arr .u8 32) (.row a15) (.row b15)=([a15.getD 0 0,a15.getD 1 0,a15.getD 2 0,a15.getD 3 0,a15.getD 4 0,a15.getD 5 0,a15.getD 6 0,a15.getD 7 0,a15.getD 8 0,a15.getD 9 0,a15.getD 10 0,a15.getD 11 0,a15.getD 12 0,a15.getD 13 0,a15.getD 14 0,a15.getD 15 0,a15.getD 16 0,a15.getD 17 0,a15.getD 18 0,a15.getD 19 0,a15.getD 20 0,a15.getD 21 0,a15.getD 22 0,a15.getD 23 0,a15.getD 24 0,a15.getD 25 0,a15.getD 26 0,a15.getD 27 0,a15.getD 28 0,a15.getD 29 0,a15.getD 30 0,a15.getD 31 0] == [b15.getD 0 0,b15.getD 1 0,b15.getD 2 0,b15.getD 3 0,b15.getD 4 0,b15.getD 5 0,b15.getD 6 0,b15.getD 7 0,b15.getD 8 0,b15.getD 9 0,b15.getD 10 0,b15.getD 11 0,b15.getD 12 0,b15.getD 13 0,b15.getD 14 0,b15.getD 15 0,b15.getD 16 0,b15.getD 17 0,b15.getD 18 0,b15.getD 19 0,b15.getD 20 0,b15.getD 21 0,b15.getD 22 0,b15.getD 23 0,b15.getD 24 0,b15.getD 25 0,b15.getD 26 0,b15.getD 27 0,b15.getD 28 0,b15.getD 29 0,b15.getD 30 0,b15.getD 31 0]):=rfl
theorem eqR17:eqD (.str) (.str a17) (.str b17)=(a17.toList == b17.toList):=rfl
theorem eqR18:eqD (.str) (.str a18) (.str b18)=(a18.toList == b18.toList):=rfl
theorem ey5 (h:eqD (.two (.int .u32) (.two (.int .u64) (.two (.arr .u8 16) (.int .u16)))) (.pair (.int a5t) (.pair (.int a5s) (.pair (.row a5i) (.int a5p)))) (.pair (.int b5t) (.pair (.int b5s) (.pair (.row b5i) (.int b5p))))=true):(!(decide (a5t=b5t)&&(decide (a5s=b5s)&&([a5i.getD 0 0,a5i.getD 1 0,a5i.getD 2 0,a5i.getD 3 0,a5i.getD 4 0,a5i.getD 5 0,a5i.getD 6 0,a5i.getD 7 0,a5i.getD 8 0,a5i.getD 9 0,a5i.getD 10 0,a5i.getD 11 0,a5i.getD 12 0,a5i.getD 13 0,a5i.getD 14 0,a5i.getD 15 0] == [b5i.getD 0 0,b5i.getD 1 0,b5i.getD 2 0,b5i.getD 3 0,b5i.getD 4 0,b5i.getD 5 0,b5i.getD 6 0,b5i.getD 7 0,b5i.getD 8 0,b5i.getD 9 0,b5i.getD 10 0,b5i.getD 11 0,b5i.getD 12 0,b5i.getD 13 0,b5i.getD 14 0,b5i.getD 15 0]&&decide (a5p=b5p)))))=false:=by rw[←eqR5,h];rfl
theorem en5 (h:¬eqD (.two (.int .u32) (.two (.int .u64) (.two (.arr .u8 16) (.int .u16)))) (.pair (.int a5t) (.pair (.int a5s) (.pair (.row a5i) (.int a5p)))) (.pair (.int b5t) (.pair (.int b5s) (.pair (.row b5i) (.int b5p))))=true):(!(decide (a5t=b5t)&&(decide (a5s=b5s)&&([a5i.getD 0 0,a5i.getD 1 0,a5i.getD 2 0,a5i.getD 3 0,a5i.getD 4 0,a5i.getD 5 0,a5i.getD 6 0,a5i.getD 7 0,a5i.getD 8 0,a5i.getD 9 0,a5i.getD 10 0,a5i.getD 11 0,a5i.getD 12 0,a5i.getD 13 0,a5i.getD 14 0,a5i.getD 15 0] == [b5i.getD 0 0,b5i.getD 1 0,b5i.getD 2 0,b5i.getD 3 0,b5i.getD 4 0,b5i.getD 5 0,b5i.getD 6 0,b5i.getD 7 0,b5i.getD 8 0,b5i.getD 9 0,b5i.getD 10 0,b5i.getD 11 0,b5i.getD 12 0,b5i.getD 13 0,b5i.getD 14 0,b5i.getD 15 0]&&decide (a5p=b5p)))))=true:=by rw[←eqR5,Bool.eq_false_iff.2 h];rfl
theorem ey6 (h:eqD (.two (.int .u32) (.two (.int .u64) (.two (.arr .u8 16) (.int .u16)))) (.pair (.int a6t) (.pair (.int a6s) (.pair (.row a6i) (.int a6p)))) (.pair (.int b6t) (.pair (.int b6s) (.pair (.row b6i) (.int b6p))))=true):(!(decide (a6t=b6t)&&(decide (a6s=b6s)&&([a6i.getD 0 0,a6i.getD 1 0,a6i.getD 2 0,a6i.getD 3 0,a6i.getD 4 0,a6i.getD 5 0,a6i.getD 6 0,a6i.getD 7 0,a6i.getD 8 0,a6i.getD 9 0,a6i.getD 10 0,a6i.getD 11 0,a6i.getD 12 0,a6i.getD 13 0,a6i.getD 14 0,a6i.getD 15 0] == [b6i.getD 0 0,b6i.getD 1 0,b6i.getD 2 0,b6i.getD 3 0,b6i.getD 4 0,b6i.getD 5 0,b6i.getD 6 0,b6i.getD 7 0,b6i.getD 8 0,b6i.getD 9 0,b6i.getD 10 0,b6i.getD 11 0,b6i.getD 12 0,b6i.getD 13 0,b6i.getD 14 0,b6i.getD 15 0]&&decide (a6p=b6p)))))=false:=by rw[←eqR6,h];rfl
theorem en6 (h:¬eqD (.two (.int .u32) (.two (.int .u64) (.two (.arr .u8 16) (.int .u16)))) (.pair (.int a6t) (.pair (.int a6s) (.pair (.row a6i) (.int a6p)))) (.pair (.int b6t) (.pair (.int b6s) (.pair (.row b6i) (.int b6p))))=true):(!(decide (a6t=b6t)&&(decide (a6s=b6s)&&([a6i.getD 0 0,a6i.getD 1 0,a6i.getD 2 0,a6i.getD 3 0,a6i.getD 4 0,a6i.getD 5 0,a6i.getD 6 0,a6i.getD 7 0,a6i.getD 8 0,a6i.getD 9 0,a6i.getD 10 0,a6i.getD 11 0,a6i.getD 12 0,a6i.getD 13 0,a6i.getD 14 0,a6i.getD 15 0] == [b6i.getD 0 0,b6i.getD 1 0,b6i.getD 2 0,b6i.getD 3 0,b6i.getD 4 0,b6i.getD 5 0,b6i.getD 6 0,b6i.getD 7 0,b6i.getD 8 0,b6i.getD 9 0,b6i.getD 10 0,b6i.getD 11 0,b6i.getD 12 0,b6i.getD 13 0,b6i.getD 14 0,b6i.getD 15 0]&&decide (a6p=b6p)))))=true:=by rw[←eqR6,Bool.eq_false_iff.2 h];rfl
theorem ey7 (h:eqD (.str) (.str a7) (.str b7)=true):(!(a7.toList == b7.toList))=false:=by rw[←eqR7,h];rfl
theorem en7 (h:¬eqD (.str) (.str a7) (.str b7)=true):(!(a7.toList == b7.toList))=true:=by rw[←eqR7,Bool.eq_false_iff.2 h];rfl
theorem ey9 (h:eqD (.bool) (.bool a9) (.bool b9)=true):(!(a9 == b9))=false:=by rw[←eqR9,h];rfl
theorem en9 (h:¬eqD (.bool) (.bool a9) (.bool b9)=true):(!(a9 == b9))=true:=by rw[←eqR9,Bool.eq_false_iff.2 h];rfl
theorem ey10 (h:eqD (.bool) (.bool a10) (.bool b10)=true):(!(a10 == b10))=false:=by rw[←eqR10,h];rfl
theorem en10 (h:¬eqD (.bool) (.bool a10) (.bool b10)=true):(!(a10 == b10))=true:=by rw[←eqR10,Bool.eq_false_iff.2 h];rfl
theorem ey14 (h:eqD (.arr .u8 32) (.row a14) (.row b14)=true):(!([a14.getD 0 0,a14.getD 1 0,a14.getD 2 0,a14.getD 3 0,a14.getD 4 0,a14.getD 5 0,a14.getD 6 0,a14.getD 7 0,a14.getD 8 0,a14.getD 9 0,a14.getD 10 0,a14.getD 11 0,a14.getD 12 0,a14.getD 13 0,a14.getD 14 0,a14.getD 15 0,a14.getD 16 0,a14.getD 17 0,a14.getD 18 0,a14.getD 19 0,a14.getD 20 0,a14.getD 21 0,a14.getD 22 0,a14.getD 23 0,a14.getD 24 0,a14.getD 25 0,a14.getD 26 0,a14.getD 27 0,a14.getD 28 0,a14.getD 29 0,a14.getD 30 0,a14.getD 31 0] == [b14.getD 0 0,b14.getD 1 0,b14.getD 2 0,b14.getD 3 0,b14.getD 4 0,b14.getD 5 0,b14.getD 6 0,b14.getD 7 0,b14.getD 8 0,b14.getD 9 0,b14.getD 10 0,b14.getD 11 0,b14.getD 12 0,b14.getD 13 0,b14.getD 14 0,b14.getD 15 0,b14.getD 16 0,b14.getD 17 0,b14.getD 18 0,b14.getD 19 0,b14.getD 20 0,b14.getD 21 0,b14.getD 22 0,b14.getD 23 0,b14.getD 24 0,b14.getD 25 0,b14.getD 26 0,b14.getD 27 0,b14.getD 28 0,b14.getD 29 0,b14.getD 30 0,b14.getD 31 0]))=false:=by rw[←eqR14,h];rfl
theorem en14 (h:¬eqD (.arr .u8 32) (.row a14) (.row b14)=true):(!([a14.getD 0 0,a14.getD 1 0,a14.getD 2 0,a14.getD 3 0,a14.getD 4 0,a14.getD 5 0,a14.getD 6 0,a14.getD 7 0,a14.getD 8 0,a14.getD 9 0,a14.getD 10 0,a14.getD 11 0,a14.getD 12 0,a14.getD 13 0,a14.getD 14 0,a14.getD 15 0,a14.getD 16 0,a14.getD 17 0,a14.getD 18 0,a14.getD 19 0,a14.getD 20 0,a14.getD 21 0,a14.getD 22 0,a14.getD 23 0,a14.getD 24 0,a14.getD 25 0,a14.getD 26 0,a14.getD 27 0,a14.getD 28 0,a14.getD 29 0,a14.getD 30 0,a14.getD 31 0] == [b14.getD 0 0,b14.getD 1 0,b14.getD 2 0,b14.getD 3 0,b14.getD 4 0,b14.getD 5 0,b14.getD 6 0,b14.getD 7 0,b14.getD 8 0,b14.getD 9 0,b14.getD 10 0,b14.getD 11 0,b14.getD 12 0,b14.getD 13 0,b14.getD 14 0,b14.getD 15 0,b14.getD 16 0,b14.getD 17 0,b14.getD 18 0,b14.getD 19 0,b14.getD 20 0,b14.getD 21 0,b14.getD 22 0,b14.getD 23 0,b14.getD 24 0,b14.getD 25 0,b14.getD 26 0,b14.getD 27 0,b14.getD 28 0,b14.getD 29 0,b14.getD 30 0,b14.getD 31 0]))=true:=by rw[←eqR14,Bool.eq_false_iff.2 h];rfl
theorem ey15 (h:eqD (.arr .u8 32) (.row a15) (.row b15)=true):(!([a15.getD 0 0,a15.getD 1 0,a15.getD 2 0,a15.getD 3 0,a15.getD 4 0,a15.getD 5 0,a15.getD 6 0,a15.getD 7 0,a15.getD 8 0,a15.getD 9 0,a15.getD 10 0,a15.getD 11 0,a15.getD 12 0,a15.getD 13 0,a15.getD 14 0,a15.getD 15 0,a15.getD 16 0,a15.getD 17 0,a15.getD 18 0,a15.getD 19 0,a15.getD 20 0,a15.getD 21 0,a15.getD 22 0,a15.getD 23 0,a15.getD 24 0,a15.getD 25 0,a15.getD 26 0,a15.getD 27 0,a15.getD 28 0,a15.getD 29 0,a15.getD 30 0,a15.getD 31 0] == [b15.getD 0 0,b15.getD 1 0,b15.getD 2 0,b15.getD 3 0,b15.getD 4 0,b15.getD 5 0,b15.getD 6 0,b15.getD 7 0,b15.getD 8 0,b15.getD 9 0,b15.getD 10 0,b15.getD 11 0,b15.getD 12 0,b15.getD 13 0,b15.getD 14 0,b15.getD 15 0,b15.getD 16 0,b15.getD 17 0,b15.getD 18 0,b15.getD 19 0,b15.getD 20 0,b15.getD 21 0,b15.getD 22 0,b15.getD 23 0,b15.getD 24 0,b15.getD 25 0,b15.getD 26 0,b15.getD 27 0,b15.getD 28 0,b15.getD 29 0,b15.getD 30 0,b15.getD 31 0]))=false:=by rw[←eqR15,h];rfl
theorem en15 (h:¬eqD (.arr .u8 32) (.row a15) (.row b15)=true):(!([a15.getD 0 0,a15.getD 1 0,a15.getD 2 0,a15.getD 3 0,a15.getD 4 0,a15.getD 5 0,a15.getD 6 0,a15.getD 7 0,a15.getD 8 0,a15.getD 9 0,a15.getD 10 0,a15.getD 11 0,a15.getD 12 0,a15.getD 13 0,a15.getD 14 0,a15.getD 15 0,a15.getD 16 0,a15.getD 17 0,a15.getD 18 0,a15.getD 19 0,a15.getD 20 0,a15.getD 21 0,a15.getD 22 0,a15.getD 23 0,a15.getD 24 0,a15.getD 25 0,a15.getD 26 0,a15.getD 27 0,a15.getD 28 0,a15.getD 29 0,a15.getD 30 0,a15.getD 31 0] == [b15.getD 0 0,b15.getD 1 0,b15.getD 2 0,b15.getD 3 0,b15.getD 4 0,b15.getD 5 0,b15.getD 6 0,b15.getD 7 0,b15.getD 8 0,b15.getD 9 0,b15.getD 10 0,b15.getD 11 0,b15.getD 12 0,b15.getD 13 0,b15.getD 14 0,b15.getD 15 0,b15.getD 16 0,b15.getD 17 0,b15.getD 18 0,b15.getD 19 0,b15.getD 20 0,b15.getD 21 0,b15.getD 22 0,b15.getD 23 0,b15.getD 24 0,b15.getD 25 0,b15.getD 26 0,b15.getD 27 0,b15.getD 28 0,b15.getD 29 0,b15.getD 30 0,b15.getD 31 0]))=true:=by rw[←eqR15,Bool.eq_false_iff.2 h];rfl
theorem ey17 (h:eqD (.str) (.str a17) (.str b17)=true):(!(a17.toList == b17.toList))=false:=by rw[←eqR17,h];rfl
theorem en17 (h:¬eqD (.str) (.str a17) (.str b17)=true):(!(a17.toList == b17.toList))=true:=by rw[←eqR17,Bool.eq_false_iff.2 h];rfl
theorem ey18 (h:eqD (.str) (.str a18) (.str b18)=true):(!(a18.toList == b18.toList))=false:=by rw[←eqR18,h];rfl
theorem en18 (h:¬eqD (.str) (.str a18) (.str b18)=true):(!(a18.toList == b18.toList))=true:=by rw[←eqR18,Bool.eq_false_iff.2 h];rfl
end
end Go.Eng
namespace Go.Proofs.Ytlbllaocdilafaa
open Go Go.Eng Go.Proofs Go.RowKit
attribute[local irreducible] CallOk HOk Run TIok rbin rcmp run1 updF shfF blitF
def tr0 (lf:LQm):Tbl:=tbL [] []
theorem tr0_ok:TblOk Try.prog (tr0 lqmR):=tbL_ok nofun nofun
end Go.Proofs.Ytlbllaocdilafaa
namespace Go.Eng
open Go
def kindD (k n:Int):D:=(Ms.mk k 0 0 n 0 ⟨0,0,[0,0,0,0,0,0,0,0,0,0,0,0,0,0,0,0],0⟩ ⟨0,0,[0,0,0,0,0,0,0,0,0,0,0,0,0,0,0,0],0⟩ .empty 0 false false [] [] [] [0,0,0,0,0,0,0,0,0,0,0,0,0,0,0,0,0,0,0,0,0,0,0,0,0,0,0,0,0,0,0,0] [0,0,0,0,0,0,0,0,0,0,0,0,0,0,0,0,0,0,0,0,0,0,0,0,0,0,0,0,0,0,0,0] [] .empty .empty [] [] [] []).D
structure LN1 extends LQm where
 n56:Int→Prop
 n56':Int→Prop
def lnR:LN1 where
 toLQm:=lqmR
 n56 k:=k=5∨k=6
 n56' k:=¬(k=5∨k=6)
end Go.Eng
namespace Go.Proofs.Ytlbllaocdilafaa
open Go Go.Eng Go.Proofs Go.RowKit
attribute[local irreducible] CallOk HOk Run TIok rbin rcmp run1 updF shfF blitF
def ti0b (lf:LN1):Tbl:=tbL [] []
theorem ti0b_ok:TblOk Try.prog (ti0b lnR):=tbL_ok nofun nofun
def sNonced (lf:LN1):ESpec:=fun l=>match l with
 | [.one (.int .i64 k),.one (.int .u64 n)]=>some (.tup [.agg (.prt [.v MS (kindD k n)]),.one (.int .i64 0)],[lf.n56 k])
 |_=>none
def sBare (lf:LN1):ESpec:=fun l=>match l with
 | [.one (.int .i64 k)]=>some (.a (.agg (.prt [.v MS (kindD k 0)])),[])
 |_=>none
theorem nonced_ok:CallOk Try.prog 43 (sNonced lnR):=by
 refine .of_run (hc:=(ti0b lnR).hc) Try.func43 rfl (by kernel_rfl) (by kernel_rfl) fun xs v ps hs hp w=>?_
 unfold sNonced at hs
 split at hs
 ·rename_i k n
  cases hs
  have h:k=5∨k=6:=hp (lnR.n56 k) (by simp)
  clear hp
  by_cases h5:k=5
  ·refine rx ti0b_ok 999 false 400 [false,false] ?_ ?_
   ·simp only[conj,z0,z2,arR,z1]
    ((repeat' with_reducible apply And.intro)<;>first|omega|assumption|rfl|trivial)
   ·exact Run.ret ti_ok rfl rfl (VLe.tup2 (ALe.prt rfl) (.lit rfl))
  ·refine rx ti0b_ok 999 false 400 [true,false] ?_ ?_
   ·simp only[conj,z0,z2,arR,z1]
    ((repeat' with_reducible apply And.intro)<;>first|omega|assumption|rfl|trivial)
   ·exact Run.ret ti_ok rfl rfl (VLe.tup2 (ALe.prt rfl) (.lit rfl))
 ·cases hs
end Go.Proofs.Ytlbllaocdilafaa
namespace Go.Eng
open Go
def isPing (d:D):Prop:=∃k n:Int,(k=5∨k=6)∧d=kindD k n
structure LN4 extends LN1 where
 ping:D→Prop
def ln4:LN4 where
 toLN1:=lnR
 ping:=isPing
end Go.Eng
namespace Go.Proofs.Ytlbllaocdilafaa
open Go Go.Eng Go.Proofs Go.RowKit
attribute[local irreducible] CallOk HOk Run TIok rbin rcmp run1 updF shfF blitF
def tl0 (lf:LN4):Tbl:=tbL [] []
theorem tl0_ok:TblOk Try.prog (tl0 ln4):=tbL_ok nofun nofun
def sNamed5 (lf:LN4):ESpec:=fun l=>match l with
 | [.agg (.prt [.v s d])]=>if shEq s MS then some (.a (.agg (.prt [.v MS d])),[lf.ping d])else none
 |_=>none
theorem named5_ok:CallOk Try.prog 67 (sNamed5 ln4):=by
 refine .of_run (hc:=(tl0 ln4).hc) Try.func67 rfl (by kernel_rfl) (by kernel_rfl) fun xs v ps hs hp w=>?_
 unfold sNamed5 at hs
 split at hs
 ·rename_i s d
  split at hs
  ·rename_i hsh
   obtain rfl:=shEq_eq hsh
   clear hsh
   cases hs
   obtain⟨k,n,hk,rfl⟩:isPing d:=hp (ln4.ping d) (by simp)
   clear hp
   by_cases h5:k=5
   ·refine rx tl0_ok 999 false 400 [false,true,true] ?_ ?_
    ·simp only[conj,z0,z2,arR,z1,dF_m,dS_m,dI_m]
     ((repeat' with_reducible apply And.intro)<;>first|omega|assumption|rfl|trivial)
    ·exact Run.ret ti_ok rfl rfl (.a (ALe.prt rfl))
   ·refine rx tl0_ok 999 false 400 [false,false,true] ?_ ?_
    ·simp only[conj,z0,z2,arR,z1,dF_m,dS_m,dI_m]
     ((repeat' with_reducible apply And.intro)<;>first|omega|assumption|rfl|trivial)
    ·exact Run.ret ti_ok rfl rfl (.a (ALe.prt rfl))
  ·cases hs
 ·cases hs
def sMany5 (lf:LN4):ESpec:=fun l=>match l with
 | [.agg (.prt [.v s d])]=>if shEq s MS then some (.a (.one (.bool false)),[lf.ping d])else none
 |_=>none
theorem many5_ok:CallOk Try.prog 66 (sMany5 ln4):=by
 refine .of_run (hc:=(tl0 ln4).hc) Try.func66 rfl (by kernel_rfl) (by kernel_rfl) fun xs v ps hs hp w=>?_
 unfold sMany5 at hs
 split at hs
 ·rename_i s d
  split at hs
  ·rename_i hsh
   obtain rfl:=shEq_eq hsh
   clear hsh
   cases hs
   obtain⟨k,n,hk,rfl⟩:isPing d:=hp (ln4.ping d) (by simp)
   clear hp
   refine rx tl0_ok 999 true 400 [false,false,false,false,false,false,false,false,false,false,false,false] ?_ ?_
   ·simp only[conj,z0,z2,arR,z1,zd]
    trace_state
    ((repeat' with_reducible apply And.intro)<;>first|omega|assumption|rfl|trivial)
   ·trace_state
    refine Run.ret ti_ok rfl rfl (.a (.bool ?_))
    show rcmp .gtr (0:Int) 500=false
    rw[rcmp_gtr];rfl
  ·cases hs
 ·cases hs
end Go.Proofs.Ytlbllaocdilafaa
