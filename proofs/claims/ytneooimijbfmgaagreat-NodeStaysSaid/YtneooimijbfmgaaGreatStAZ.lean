import Derived.Test.YtneooimijbfmgaaGreatProg
import Derived.KernelRfl
import Derived.Test.YtneooimijbfmgaaGreatStAR
import Derived.Test.YtneooimijbfmgaaGreatStAT
import Derived.Test.YtneooimijbfmgaaGreatStAW
import Derived.Test.YtneooimijbfmgaaGreatStAX
import Derived.Test.YtneooimijbfmgaaGreatStAY
set_option linter.unusedVariables false
set_option linter.unusedSimpArgs false
set_option linter.unusedSectionVars false
noncomputable section
namespace Go.Vc
open Classical
def f_nodeTickF (aa:List DV):List DV:=m_tick (ai aa 0) (bi aa 1)
def t_nodeTickF:ConT:=⟨[rkS nodeS,kb],[rkS nodeS,kb,kn],fun aa=>DShs nodeS (ai aa 0),fun aa rs=>rs=f_nodeTickF aa⟩
theorem fn_nodeTickF:∀ aa,t_nodeTickF.pre aa→∀ rs,t_nodeTickF.post aa rs→rs=f_nodeTickF aa:=fun _ _ _ h=>h
def V_nodeTickF:Prop:=∀ (x0 x1:Int) (b2:Bool) (x3 x4 x5 x6 x7:Int) (b8:Bool) (l9:LL) (x10:Int) (b11:Bool) (l12:LL) (x13:Int) (b14:Bool) (l15:LL) (x16:Int) (b17:Bool) (l18:LL) (x19:Int) (b20:Bool) (x21 x22:Int) (l23:LL) (b24:Bool) (x25 x26:Int) (l27:LL) (x28 x29:Int) (l30 l31 l32:LL) (b33:Bool),Ob (DShs nodeS [dn x0,dn x1,db b2,dn x3,dn x4,dn x5,dn x6,dn x7,db b8,D.fs l9,dn x10,db b11,D.fs l12,dn x13,db b14,D.fs l15,dn x16,db b17,D.fs l18,dn x19,db b20,dn x21,dn x22,D.fs l23,db b24,dn x25,dn x26,D.fs l27,dn x28,dn x29,D.fs l30,D.fs l31,D.fs l32])→∀ (R:List DV→Prop),Ob (∀ (res:List DV),res=m_tick [dn x0,dn x1,db b2,dn x3,dn x4,dn x5,dn x6,dn x7,db b8,D.fs l9,dn x10,db b11,D.fs l12,dn x13,db b14,D.fs l15,dn x16,db b17,D.fs l18,dn x19,db b20,dn x21,dn x22,D.fs l23,db b24,dn x25,dn x26,D.fs l27,dn x28,dn x29,D.fs l30,D.fs l31,D.fs l32] b33→R res)→Ob (DShs nodeS [dn x0,dn x1,db b2,dn x3,dn x4,dn x5,dn x6,dn x7,db b8,D.fs l9,dn x10,db b11,D.fs l12,dn x13,db b14,D.fs l15,dn x16,db b17,D.fs l18,dn x19,db b20,dn x21,dn x22,D.fs l23,db b24,dn x25,dn x26,D.fs l27,dn x28,dn x29,D.fs l30,D.fs l31,D.fs l32])∧∀ (x35:Int),Ob ([vn x35]=[vn (if p_node [dn x0,dn x1,db b2,dn x3,dn x4,dn x5,dn x6,dn x7,db b8,D.fs l9,dn x10,db b11,D.fs l12,dn x13,db b14,D.fs l15,dn x16,db b17,D.fs l18,dn x19,db b20,dn x21,dn x22,D.fs l23,db b24,dn x25,dn x26,D.fs l27,dn x28,dn x29,D.fs l30,D.fs l31,D.fs l32] then (0:Int) else (8:Int))])→(x35≠(0:Int)→(x35≠(0:Int)→Ob (R [DV.a [dn (0:Int),dn (0:Int),db false,dn (0:Int),dn (0:Int),dn (0:Int),dn (0:Int),dn (0:Int),db false,D.fs [],dn (0:Int),db false,D.fs [],dn (0:Int),db false,D.fs [],dn (0:Int),db false,D.fs [],dn (0:Int),db false,dn (0:Int),dn (0:Int),D.fs [],db false,dn (0:Int),dn (0:Int),D.fs [],dn (0:Int),dn (0:Int),D.fs [],D.fs [],D.fs []],vb false,vn x35]))∧(¬x35≠(0:Int)→Ob False))∧(¬x35≠(0:Int)→(b2=false→Ob (R [DV.a [dn (0:Int),dn (0:Int),db false,dn (0:Int),dn (0:Int),dn (0:Int),dn (0:Int),dn (0:Int),db false,D.fs [],dn (0:Int),db false,D.fs [],dn (0:Int),db false,D.fs [],dn (0:Int),db false,D.fs [],dn (0:Int),db false,dn (0:Int),dn (0:Int),D.fs [],db false,dn (0:Int),dn (0:Int),D.fs [],dn (0:Int),dn (0:Int),D.fs [],D.fs [],D.fs []],vb false,vn (14:Int)]))∧(¬b2=false→Ob (DShs partS [db b8,D.fs l9,dn x10,db b11,D.fs l12,dn x13,db b14,D.fs l15,dn x16,db b17,D.fs l18,dn x19,db b20,dn x21,dn x22,D.fs l23]∧List.length l9≤(1048576:Nat)∧List.length l12≤(1048576:Nat)∧List.length l15≤(1048576:Nat)∧List.length l18≤(1048576:Nat)∧List.length l23≤(1048576:Nat))∧∀ (b36:Bool) (l37:LL) (x38:Int) (b39:Bool) (l40:LL) (x41:Int) (b42:Bool) (l43:LL) (x44:Int) (b45:Bool) (l46:LL) (x47:Int) (b48:Bool) (x49 x50:Int) (l51:LL),Ob ([DV.a [db b36,D.fs l37,dn x38,db b39,D.fs l40,dn x41,db b42,D.fs l43,dn x44,db b45,D.fs l46,dn x47,db b48,dn x49,dn x50,D.fs l51]]=[DV.a [db b8,D.fs l9,dn x10,db b11,D.fs l12,dn x13,db b14,D.fs l15,dn x16,db b17,D.fs l18,dn x19,db b20,dn x21,dn x22,D.fs l23]])→Ob (LSh [s64] l27∧List.length l27≤(1048576:Nat))∧∀ (l52:LL),Ob ([vl l52]=[vl l27])→Ob (DShs cacheS [dn x28,dn x29,D.fs l30]∧List.length l30≤(1048576:Nat))∧∀ (x53 x54:Int) (l55:LL),Ob ([DV.a [dn x53,dn x54,D.fs l55]]=[DV.a [dn x28,dn x29,D.fs l30]])→Ob (LSh frozS l31∧e_past l31=(0:Int))∧∀ (l56:LL),Ob ([vl l56]=[vl l31])→Ob (LSh pairS l32∧List.length l32≤(1048576:Nat))∧∀ (l57:LL),Ob ([vl l57]=[vl l32])→Ob (DShs clockS [dn x3,dn x4,dn x5,dn x6,dn x7])∧∀ (x58 x59 x60 x61 x62:Int) (b63:Bool) (x64:Int),Ob ([DV.a [dn x58,dn x59,dn x60,dn x61,dn x62],vb b63,vn x64]=m_etick [dn x3,dn x4,dn x5,dn x6,dn x7])→(x64≠(0:Int)→Ob (R [DV.a [dn (0:Int),dn (0:Int),db false,dn (0:Int),dn (0:Int),dn (0:Int),dn (0:Int),dn (0:Int),db false,D.fs [],dn (0:Int),db false,D.fs [],dn (0:Int),db false,D.fs [],dn (0:Int),db false,D.fs [],dn (0:Int),db false,dn (0:Int),dn (0:Int),D.fs [],db false,dn (0:Int),dn (0:Int),D.fs [],dn (0:Int),dn (0:Int),D.fs [],D.fs [],D.fs []],vb false,vn x64]))∧(¬x64≠(0:Int)→(b63=true→(x6≥x7→Ob (LSh frozS l56∧DShs partS [db b36,D.fs l37,dn x38,db b39,D.fs l40,dn x41,db b42,D.fs l43,dn x44,db b45,D.fs l46,dn x47,db b48,dn x49,dn x50,D.fs l51])∧∀ (l65:LL) (x66:Int),Ob ([vl l65,vn x66]=m_frz l56 x6 [db b36,D.fs l37,dn x38,db b39,D.fs l40,dn x41,db b42,D.fs l43,dn x44,db b45,D.fs l46,dn x47,db b48,dn x49,dn x50,D.fs l51])→(x66≠(0:Int)→(x66≠(0:Int)→Ob (R [DV.a [dn (0:Int),dn (0:Int),db false,dn (0:Int),dn (0:Int),dn (0:Int),dn (0:Int),dn (0:Int),db false,D.fs [],dn (0:Int),db false,D.fs [],dn (0:Int),db false,D.fs [],dn (0:Int),db false,D.fs [],dn (0:Int),db false,dn (0:Int),dn (0:Int),D.fs [],db false,dn (0:Int),dn (0:Int),D.fs [],dn (0:Int),dn (0:Int),D.fs [],D.fs [],D.fs []],vb false,vn x66]))∧(¬x66≠(0:Int)→Ob (LSh pairS l57)∧∀ (l67 l68:LL) (x69:Int),Ob ([vl l67,vl l68,vn x69]=m_due l57 x4)→∀ (x70:Int),x70=(↑(List.length l67):Int)→Ob ((0:Int)≤(0:Int)∧(0:Int)≤(↑(List.length l67):Int)∧l67=dueT l57 x59∧LSh pairS l67∧wtI b63 b24 x25 x26 l67 (0:Int) b24 x25 x26)∧∀ (g71:Nat→Value) (x72:Int) (l73:LL) (b74:Bool) (x75 x76:Int),Ob ((0:Int)≤x72∧x72≤(↑(List.length l73):Int)∧l73=dueT l57 x59∧LSh pairS l73∧wtI b63 b24 x25 x26 l73 x72 b74 x75 x76)→(x72<x70→Ob ((0:Int)≤x72∧x72<(↑(List.length l73):Int))∧Ob (Shp [Kd.int IntKind.i64,Kd.int IntKind.i64] l73)∧∀ (x77 x78:Int),Ob (l73[Int.toNat x72]?=some [dn x77,dn x78])→(b74=true→(x78=x75→∀ (x79:Int),x79=w64 (x72+(1:Int))→Ob ((0:Int)≤x79∧x79≤(↑(List.length l73):Int)∧l73=dueT l57 x59∧LSh pairS l73∧wtI b63 b24 x25 x26 l73 x79 false (0:Int) (0:Int))∧Ob (List.length l73-Int.toNat x79<List.length l73-Int.toNat x72))∧(¬x78=x75→∀ (x80:Int),x80=w64 (x72+(1:Int))→Ob ((0:Int)≤x80∧x80≤(↑(List.length l73):Int)∧l73=dueT l57 x59∧LSh pairS l73∧wtI b63 b24 x25 x26 l73 x80 true x75 x76)∧Ob (List.length l73-Int.toNat x80<List.length l73-Int.toNat x72)))∧(b74=false→∀ (x81:Int),x81=w64 (x72+(1:Int))→Ob ((0:Int)≤x81∧x81≤(↑(List.length l73):Int)∧l73=dueT l57 x59∧LSh pairS l73∧wtI b63 b24 x25 x26 l73 x81 false x75 x76)∧Ob (List.length l73-Int.toNat x81<List.length l73-Int.toNat x72)))∧(¬x72<x70→(x69≠(0:Int)→Ob (R [DV.a [dn (0:Int),dn (0:Int),db false,dn (0:Int),dn (0:Int),dn (0:Int),dn (0:Int),dn (0:Int),db false,D.fs [],dn (0:Int),db false,D.fs [],dn (0:Int),db false,D.fs [],dn (0:Int),db false,D.fs [],dn (0:Int),db false,dn (0:Int),dn (0:Int),D.fs [],db false,dn (0:Int),dn (0:Int),D.fs [],dn (0:Int),dn (0:Int),D.fs [],D.fs [],D.fs []],vb false,vn x69]))∧(¬x69≠(0:Int)→Ob (R [DV.a [dn x0,dn x1,db b2,dn x3,dn x4,dn x5,dn x6,dn x7,db b36,D.fs l37,dn x38,db b39,D.fs l40,dn x41,db b42,D.fs l43,dn x44,db b45,D.fs l46,dn x47,db b48,dn x49,dn x50,D.fs l51,db b74,dn x75,dn x76,D.fs l52,dn x53,dn x54,D.fs l55,D.fs l56,D.fs l68],vb true,vn (0:Int)])))))∧(¬x66≠(0:Int)→(x61≥x62→Ob (inV x1)∧∀ (b82:Bool) (l83:LL) (x84:Int) (b85:Bool) (l86:LL) (x87:Int) (b88:Bool) (l89:LL) (x90:Int) (b91:Bool) (l92:LL) (x93 x94:Int),Ob ([DV.a [db b82,D.fs l83,dn x84,db b85,D.fs l86,dn x87,db b88,D.fs l89,dn x90,db b91,D.fs l92,dn x93],vn x94]=[DV.a [db (decide (x1<(0:Int))),D.fs (if x1=(0:Int) then [] else [[d32 (↑(Int.natAbs x1):Int)]]),dn (0:Int),db false,D.fs [[d32 (1:Int)]],dn (0:Int),db false,D.fs (if b33=true then [[d32 (1:Int)]] else []),dn (0:Int),db (decide (x1<(0:Int))),D.fs (if x1=(0:Int) then [] else [[d32 (↑(Int.natAbs x1):Int)]]),dn (0:Int)],vn (0:Int)])→Ob (inV x1)∧∀ (b95:Bool) (x96 x97 x98:Int),Ob ([DV.a [db b95,dn x96,dn x97],vn x98]=[DV.a [db true,dn x1,dn x1],vn (0:Int)])→Ob ((0:Int)≤x61∧x61≤(65535:Int)∧(0:Int)≤x0∧x0≤(7:Int))∧∀ (l99:LL) (x100:Int),Ob (∃ l,[vl l99,vn x100]=[vl l,vn (0:Int)]∧LSh [s32] l∧p_tags x61 x0 l)→Ob (LSh pairS l57)∧∀ (l101 l102:LL) (x103:Int),Ob ([vl l101,vl l102,vn x103]=m_due l57 x59)→∀ (x104:Int),x104=(↑(List.length l101):Int)→Ob ((0:Int)≤(0:Int)∧(0:Int)≤(↑(List.length l101):Int)∧l101=dueT l57 x59∧LSh pairS l101∧wtI b63 b24 x25 x26 l101 (0:Int) false (0:Int) (0:Int))∧∀ (g105:Nat→Value) (x106:Int) (l107:LL) (b108:Bool) (x109 x110:Int),Ob ((0:Int)≤x106∧x106≤(↑(List.length l107):Int)∧l107=dueT l57 x59∧LSh pairS l107∧wtI b63 b24 x25 x26 l107 x106 b108 x109 x110)→(x106<x104→Ob ((0:Int)≤x106∧x106<(↑(List.length l107):Int))∧Ob (Shp [Kd.int IntKind.i64,Kd.int IntKind.i64] l107)∧∀ (x111 x112:Int),Ob (l107[Int.toNat x106]?=some [dn x111,dn x112])→(b108=true→(x112=x109→∀ (x113:Int),x113=w64 (x106+(1:Int))→Ob ((0:Int)≤x113∧x113≤(↑(List.length l107):Int)∧l107=dueT l57 x59∧LSh pairS l107∧wtI b63 b24 x25 x26 l107 x113 false (0:Int) (0:Int))∧Ob (List.length l107-Int.toNat x113<List.length l107-Int.toNat x106))∧(¬x112=x109→∀ (x114:Int),x114=w64 (x106+(1:Int))→Ob ((0:Int)≤x114∧x114≤(↑(List.length l107):Int)∧l107=dueT l57 x59∧LSh pairS l107∧wtI b63 b24 x25 x26 l107 x114 true x109 x110)∧Ob (List.length l107-Int.toNat x114<List.length l107-Int.toNat x106)))∧(b108=false→∀ (x115:Int),x115=w64 (x106+(1:Int))→Ob ((0:Int)≤x115∧x115≤(↑(List.length l107):Int)∧l107=dueT l57 x59∧LSh pairS l107∧wtI b63 b24 x25 x26 l107 x115 false x109 x110)∧Ob (List.length l107-Int.toNat x115<List.length l107-Int.toNat x106)))∧(¬x106<x104→(x103≠(0:Int)→Ob (R [DV.a [dn (0:Int),dn (0:Int),db false,dn (0:Int),dn (0:Int),dn (0:Int),dn (0:Int),dn (0:Int),db false,D.fs [],dn (0:Int),db false,D.fs [],dn (0:Int),db false,D.fs [],dn (0:Int),db false,D.fs [],dn (0:Int),db false,dn (0:Int),dn (0:Int),D.fs [],db false,dn (0:Int),dn (0:Int),D.fs [],dn (0:Int),dn (0:Int),D.fs [],D.fs [],D.fs []],vb false,vn x103]))∧(¬x103≠(0:Int)→Ob (R [DV.a [dn x0,dn x1,db b2,dn x58,dn x59,dn x60,dn x61,dn x62,db b82,D.fs l83,dn x84,db b85,D.fs l86,dn x87,db b88,D.fs l89,dn x90,db b91,D.fs l92,dn x93,db b95,dn x96,dn x97,D.fs l99,db b108,dn x109,dn x110,D.fs l52,dn x53,dn x54,D.fs l55,D.fs l65,D.fs l102],vb true,vn (0:Int)]))))∧(¬x61≥x62→Ob (LSh pairS l57)∧∀ (l116 l117:LL) (x118:Int),Ob ([vl l116,vl l117,vn x118]=m_due l57 x59)→∀ (x119:Int),x119=(↑(List.length l116):Int)→Ob ((0:Int)≤(0:Int)∧(0:Int)≤(↑(List.length l116):Int)∧l116=dueT l57 x59∧LSh pairS l116∧wtI b63 b24 x25 x26 l116 (0:Int) false (0:Int) (0:Int))∧∀ (g120:Nat→Value) (x121:Int) (l122:LL) (b123:Bool) (x124 x125:Int),Ob ((0:Int)≤x121∧x121≤(↑(List.length l122):Int)∧l122=dueT l57 x59∧LSh pairS l122∧wtI b63 b24 x25 x26 l122 x121 b123 x124 x125)→(x121<x119→Ob ((0:Int)≤x121∧x121<(↑(List.length l122):Int))∧Ob (Shp [Kd.int IntKind.i64,Kd.int IntKind.i64] l122)∧∀ (x126 x127:Int),Ob (l122[Int.toNat x121]?=some [dn x126,dn x127])→(b123=true→(x127=x124→∀ (x128:Int),x128=w64 (x121+(1:Int))→Ob ((0:Int)≤x128∧x128≤(↑(List.length l122):Int)∧l122=dueT l57 x59∧LSh pairS l122∧wtI b63 b24 x25 x26 l122 x128 false (0:Int) (0:Int))∧Ob (List.length l122-Int.toNat x128<List.length l122-Int.toNat x121))∧(¬x127=x124→∀ (x129:Int),x129=w64 (x121+(1:Int))→Ob ((0:Int)≤x129∧x129≤(↑(List.length l122):Int)∧l122=dueT l57 x59∧LSh pairS l122∧wtI b63 b24 x25 x26 l122 x129 true x124 x125)∧Ob (List.length l122-Int.toNat x129<List.length l122-Int.toNat x121)))∧(b123=false→∀ (x130:Int),x130=w64 (x121+(1:Int))→Ob ((0:Int)≤x130∧x130≤(↑(List.length l122):Int)∧l122=dueT l57 x59∧LSh pairS l122∧wtI b63 b24 x25 x26 l122 x130 false x124 x125)∧Ob (List.length l122-Int.toNat x130<List.length l122-Int.toNat x121)))∧(¬x121<x119→(x118≠(0:Int)→Ob (R [DV.a [dn (0:Int),dn (0:Int),db false,dn (0:Int),dn (0:Int),dn (0:Int),dn (0:Int),dn (0:Int),db false,D.fs [],dn (0:Int),db false,D.fs [],dn (0:Int),db false,D.fs [],dn (0:Int),db false,D.fs [],dn (0:Int),db false,dn (0:Int),dn (0:Int),D.fs [],db false,dn (0:Int),dn (0:Int),D.fs [],dn (0:Int),dn (0:Int),D.fs [],D.fs [],D.fs []],vb false,vn x118]))∧(¬x118≠(0:Int)→Ob (R [DV.a [dn x0,dn x1,db b2,dn x58,dn x59,dn x60,dn x61,dn x62,db false,D.fs [],dn (0:Int),db false,D.fs [],dn (0:Int),db false,D.fs [],dn (0:Int),db false,D.fs [],dn (0:Int),db false,dn (0:Int),dn (0:Int),D.fs [],db b123,dn x124,dn x125,D.fs l52,dn x53,dn x54,D.fs l55,D.fs l65,D.fs l117],vb true,vn (0:Int)]))))))∧(¬x6≥x7→(x61≥x62→Ob (inV x1)∧∀ (b131:Bool) (l132:LL) (x133:Int) (b134:Bool) (l135:LL) (x136:Int) (b137:Bool) (l138:LL) (x139:Int) (b140:Bool) (l141:LL) (x142 x143:Int),Ob ([DV.a [db b131,D.fs l132,dn x133,db b134,D.fs l135,dn x136,db b137,D.fs l138,dn x139,db b140,D.fs l141,dn x142],vn x143]=[DV.a [db (decide (x1<(0:Int))),D.fs (if x1=(0:Int) then [] else [[d32 (↑(Int.natAbs x1):Int)]]),dn (0:Int),db false,D.fs [[d32 (1:Int)]],dn (0:Int),db false,D.fs (if b33=true then [[d32 (1:Int)]] else []),dn (0:Int),db (decide (x1<(0:Int))),D.fs (if x1=(0:Int) then [] else [[d32 (↑(Int.natAbs x1):Int)]]),dn (0:Int)],vn (0:Int)])→Ob (inV x1)∧∀ (b144:Bool) (x145 x146 x147:Int),Ob ([DV.a [db b144,dn x145,dn x146],vn x147]=[DV.a [db true,dn x1,dn x1],vn (0:Int)])→Ob ((0:Int)≤x61∧x61≤(65535:Int)∧(0:Int)≤x0∧x0≤(7:Int))∧∀ (l148:LL) (x149:Int),Ob (∃ l,[vl l148,vn x149]=[vl l,vn (0:Int)]∧LSh [s32] l∧p_tags x61 x0 l)→Ob (LSh pairS l57)∧∀ (l150 l151:LL) (x152:Int),Ob ([vl l150,vl l151,vn x152]=m_due l57 x59)→∀ (x153:Int),x153=(↑(List.length l150):Int)→Ob ((0:Int)≤(0:Int)∧(0:Int)≤(↑(List.length l150):Int)∧l150=dueT l57 x59∧LSh pairS l150∧wtI b63 b24 x25 x26 l150 (0:Int) false (0:Int) (0:Int))∧∀ (g154:Nat→Value) (x155:Int) (l156:LL) (b157:Bool) (x158 x159:Int),Ob ((0:Int)≤x155∧x155≤(↑(List.length l156):Int)∧l156=dueT l57 x59∧LSh pairS l156∧wtI b63 b24 x25 x26 l156 x155 b157 x158 x159)→(x155<x153→Ob ((0:Int)≤x155∧x155<(↑(List.length l156):Int))∧Ob (Shp [Kd.int IntKind.i64,Kd.int IntKind.i64] l156)∧∀ (x160 x161:Int),Ob (l156[Int.toNat x155]?=some [dn x160,dn x161])→(b157=true→(x161=x158→∀ (x162:Int),x162=w64 (x155+(1:Int))→Ob ((0:Int)≤x162∧x162≤(↑(List.length l156):Int)∧l156=dueT l57 x59∧LSh pairS l156∧wtI b63 b24 x25 x26 l156 x162 false (0:Int) (0:Int))∧Ob (List.length l156-Int.toNat x162<List.length l156-Int.toNat x155))∧(¬x161=x158→∀ (x163:Int),x163=w64 (x155+(1:Int))→Ob ((0:Int)≤x163∧x163≤(↑(List.length l156):Int)∧l156=dueT l57 x59∧LSh pairS l156∧wtI b63 b24 x25 x26 l156 x163 true x158 x159)∧Ob (List.length l156-Int.toNat x163<List.length l156-Int.toNat x155)))∧(b157=false→∀ (x164:Int),x164=w64 (x155+(1:Int))→Ob ((0:Int)≤x164∧x164≤(↑(List.length l156):Int)∧l156=dueT l57 x59∧LSh pairS l156∧wtI b63 b24 x25 x26 l156 x164 false x158 x159)∧Ob (List.length l156-Int.toNat x164<List.length l156-Int.toNat x155)))∧(¬x155<x153→(x152≠(0:Int)→Ob (R [DV.a [dn (0:Int),dn (0:Int),db false,dn (0:Int),dn (0:Int),dn (0:Int),dn (0:Int),dn (0:Int),db false,D.fs [],dn (0:Int),db false,D.fs [],dn (0:Int),db false,D.fs [],dn (0:Int),db false,D.fs [],dn (0:Int),db false,dn (0:Int),dn (0:Int),D.fs [],db false,dn (0:Int),dn (0:Int),D.fs [],dn (0:Int),dn (0:Int),D.fs [],D.fs [],D.fs []],vb false,vn x152]))∧(¬x152≠(0:Int)→Ob (R [DV.a [dn x0,dn x1,db b2,dn x58,dn x59,dn x60,dn x61,dn x62,db b131,D.fs l132,dn x133,db b134,D.fs l135,dn x136,db b137,D.fs l138,dn x139,db b140,D.fs l141,dn x142,db b144,dn x145,dn x146,D.fs l148,db b157,dn x158,dn x159,D.fs l52,dn x53,dn x54,D.fs l55,D.fs l56,D.fs l151],vb true,vn (0:Int)]))))∧(¬x61≥x62→Ob (LSh pairS l57)∧∀ (l165 l166:LL) (x167:Int),Ob ([vl l165,vl l166,vn x167]=m_due l57 x59)→∀ (x168:Int),x168=(↑(List.length l165):Int)→Ob ((0:Int)≤(0:Int)∧(0:Int)≤(↑(List.length l165):Int)∧l165=dueT l57 x59∧LSh pairS l165∧wtI b63 b24 x25 x26 l165 (0:Int) false (0:Int) (0:Int))∧∀ (g169:Nat→Value) (x170:Int) (l171:LL) (b172:Bool) (x173 x174:Int),Ob ((0:Int)≤x170∧x170≤(↑(List.length l171):Int)∧l171=dueT l57 x59∧LSh pairS l171∧wtI b63 b24 x25 x26 l171 x170 b172 x173 x174)→(x170<x168→Ob ((0:Int)≤x170∧x170<(↑(List.length l171):Int))∧Ob (Shp [Kd.int IntKind.i64,Kd.int IntKind.i64] l171)∧∀ (x175 x176:Int),Ob (l171[Int.toNat x170]?=some [dn x175,dn x176])→(b172=true→(x176=x173→∀ (x177:Int),x177=w64 (x170+(1:Int))→Ob ((0:Int)≤x177∧x177≤(↑(List.length l171):Int)∧l171=dueT l57 x59∧LSh pairS l171∧wtI b63 b24 x25 x26 l171 x177 false (0:Int) (0:Int))∧Ob (List.length l171-Int.toNat x177<List.length l171-Int.toNat x170))∧(¬x176=x173→∀ (x178:Int),x178=w64 (x170+(1:Int))→Ob ((0:Int)≤x178∧x178≤(↑(List.length l171):Int)∧l171=dueT l57 x59∧LSh pairS l171∧wtI b63 b24 x25 x26 l171 x178 true x173 x174)∧Ob (List.length l171-Int.toNat x178<List.length l171-Int.toNat x170)))∧(b172=false→∀ (x179:Int),x179=w64 (x170+(1:Int))→Ob ((0:Int)≤x179∧x179≤(↑(List.length l171):Int)∧l171=dueT l57 x59∧LSh pairS l171∧wtI b63 b24 x25 x26 l171 x179 false x173 x174)∧Ob (List.length l171-Int.toNat x179<List.length l171-Int.toNat x170)))∧(¬x170<x168→(x167≠(0:Int)→Ob (R [DV.a [dn (0:Int),dn (0:Int),db false,dn (0:Int),dn (0:Int),dn (0:Int),dn (0:Int),dn (0:Int),db false,D.fs [],dn (0:Int),db false,D.fs [],dn (0:Int),db false,D.fs [],dn (0:Int),db false,D.fs [],dn (0:Int),db false,dn (0:Int),dn (0:Int),D.fs [],db false,dn (0:Int),dn (0:Int),D.fs [],dn (0:Int),dn (0:Int),D.fs [],D.fs [],D.fs []],vb false,vn x167]))∧(¬x167≠(0:Int)→Ob (R [DV.a [dn x0,dn x1,db b2,dn x58,dn x59,dn x60,dn x61,dn x62,db false,D.fs [],dn (0:Int),db false,D.fs [],dn (0:Int),db false,D.fs [],dn (0:Int),db false,D.fs [],dn (0:Int),db false,dn (0:Int),dn (0:Int),D.fs [],db b172,dn x173,dn x174,D.fs l52,dn x53,dn x54,D.fs l55,D.fs l56,D.fs l166],vb true,vn (0:Int)]))))))∧(b63=false→Ob (LSh pairS l57)∧∀ (l180 l181:LL) (x182:Int),Ob ([vl l180,vl l181,vn x182]=m_due l57 x59)→∀ (x183:Int),x183=(↑(List.length l180):Int)→Ob ((0:Int)≤(0:Int)∧(0:Int)≤(↑(List.length l180):Int)∧l180=dueT l57 x59∧LSh pairS l180∧wtI b63 b24 x25 x26 l180 (0:Int) b24 x25 x26)∧∀ (g184:Nat→Value) (x185:Int) (l186:LL) (b187:Bool) (x188 x189:Int),Ob ((0:Int)≤x185∧x185≤(↑(List.length l186):Int)∧l186=dueT l57 x59∧LSh pairS l186∧wtI b63 b24 x25 x26 l186 x185 b187 x188 x189)→(x185<x183→Ob ((0:Int)≤x185∧x185<(↑(List.length l186):Int))∧Ob (Shp [Kd.int IntKind.i64,Kd.int IntKind.i64] l186)∧∀ (x190 x191:Int),Ob (l186[Int.toNat x185]?=some [dn x190,dn x191])→(b187=true→(x191=x188→∀ (x192:Int),x192=w64 (x185+(1:Int))→Ob ((0:Int)≤x192∧x192≤(↑(List.length l186):Int)∧l186=dueT l57 x59∧LSh pairS l186∧wtI b63 b24 x25 x26 l186 x192 false (0:Int) (0:Int))∧Ob (List.length l186-Int.toNat x192<List.length l186-Int.toNat x185))∧(¬x191=x188→∀ (x193:Int),x193=w64 (x185+(1:Int))→Ob ((0:Int)≤x193∧x193≤(↑(List.length l186):Int)∧l186=dueT l57 x59∧LSh pairS l186∧wtI b63 b24 x25 x26 l186 x193 true x188 x189)∧Ob (List.length l186-Int.toNat x193<List.length l186-Int.toNat x185)))∧(b187=false→∀ (x194:Int),x194=w64 (x185+(1:Int))→Ob ((0:Int)≤x194∧x194≤(↑(List.length l186):Int)∧l186=dueT l57 x59∧LSh pairS l186∧wtI b63 b24 x25 x26 l186 x194 false x188 x189)∧Ob (List.length l186-Int.toNat x194<List.length l186-Int.toNat x185)))∧(¬x185<x183→(x182≠(0:Int)→Ob (R [DV.a [dn (0:Int),dn (0:Int),db false,dn (0:Int),dn (0:Int),dn (0:Int),dn (0:Int),dn (0:Int),db false,D.fs [],dn (0:Int),db false,D.fs [],dn (0:Int),db false,D.fs [],dn (0:Int),db false,D.fs [],dn (0:Int),db false,dn (0:Int),dn (0:Int),D.fs [],db false,dn (0:Int),dn (0:Int),D.fs [],dn (0:Int),dn (0:Int),D.fs [],D.fs [],D.fs []],vb false,vn x182]))∧(¬x182≠(0:Int)→Ob (R [DV.a [dn x0,dn x1,db b2,dn x58,dn x59,dn x60,dn x61,dn x62,db b36,D.fs l37,dn x38,db b39,D.fs l40,dn x41,db b42,D.fs l43,dn x44,db b45,D.fs l46,dn x47,db b48,dn x49,dn x50,D.fs l51,db b187,dn x188,dn x189,D.fs l52,dn x53,dn x54,D.fs l55,D.fs l56,D.fs l181],vb false,vn (0:Int)])))))))
set_option maxRecDepth 100000 in
theorem vcEq_nodeTickF:vcFn Go.Proofs.Tryz.prog k0 (cxf [(40,t_nodeCheckF),(110,t_epochTick),(192,t_timerDueF),(222,t_clone32),(153,t_cloneI),(156,t_cloneTi),(231,t_cloneDe),(234,t_dyTwin),(159,t_massTwin),(137,t_partTwin),(154,t_cacheTwin),(155,t_pastTwin),(28,t_partSame),(202,t_massSeed),(203,t_edgeOf),(204,t_tags),(191,t_freezeF)] [(30000203047,0,none),(30000293047721167,300006,some ⟨[0,1,2,3,6,7,8,9,4,10,11,12,13,5,14,15,16,17],[],[],[],[],fun _ _=>True,fun _ _=>0,none⟩),(30000293047723167,0,some ⟨[0,9,34],[35,33],[(62,24),(62,25),(62,26)],[kn,kl,kb,kn,kn],[],fun ρ ds=>0≤ni ds 0∧ni ds 0≤(li ds 1).length∧li ds 1=dueT (ρ.d 61) (ρ.n 64)∧LSh pairS (li ds 1)∧wtI (ρ.t 68) (ρ.t 24) (ρ.n 25) (ρ.n 26) (li ds 1) (ni ds 0) (bi ds 2) (ni ds 3) (ni ds 4),fun ρ ds=>((li ds 1).length-(ni ds 0).toNat),none⟩)] [] [(40,f_nodeCheckF),(110,f_epochTick),(192,f_timerDueF),(222,f_clone32),(153,f_cloneI),(156,f_cloneTi),(231,f_cloneDe),(234,f_dyTwin),(159,f_massTwin),(137,f_partTwin),(154,f_cacheTwin),(155,f_pastTwin),(28,f_partSame),(202,f_massSeed),(203,f_edgeOf),(191,f_freezeF)]) 3000 30 Go.Proofs.Tryz.f30 (bodyOf Go.Proofs.Tryz.f30) t_nodeTickF=V_nodeTickF:=by kernel_rfl
set_option maxHeartbeats 4000000 in
set_option maxRecDepth 20000 in
theorem vcPf_nodeTickF:V_nodeTickF:=by
  delta V_nodeTickF
  simp (config:={ maxSteps:=4000000 }) only [ob_iff,and_imp,forall_exists_index,true_and,and_true,List.cons.injEq,DV.c.injEq,DV.a.injEq,D.raw.injEq,D.fs.injEq,Value.bool.injEq,Value.int.injEq]
  intro x0 x1 b2 x3 x4 x5 x6 x7 b8 l9 x10 b11 l12 x13 b14 l15 x16 b17 l18 x19 b20 x21 x22 l23 b24 x25 x26 l27 x28 x29 l30 l31 l32 b33 hsh R hR
  obtain ⟨hs1,hs2,hs3,hs4,hs5,hs6⟩:=node_sh hsh
  repeat' first | assumption | exact DShs.tail (DSh_nth (by assumption) (by assumption)) | exact shp32 (by assumption) | exact shp64 (by assumption) | exact shp2 (by assumption) | exact shpF (by assumption) | with_reducible intro _ | with_reducible apply And.intro
  all_goals (try (
    have hb:¬b2=false:=(by assumption)
    have hp:=not_if8' (p:=p_node _) (by assumption) (by assumption)
    obtain ⟨q1,q2,q3,q4,q5,q6,q7,q8,q9,q10⟩:=node_lims hb hp.1
    obtain ⟨f1,f2,f3,f4⟩:=node_f hp.1
    obtain ⟨k1,k2,k3,k4,k5,k6,k7,k8,k9,k10,k11,k12,k13,k14,k15⟩:=f4 (by simpa using hb)
    obtain ⟨c1,c2,c3,c4,c5,c6,c7,c8,c9,c10⟩:=clock_b k3))
  all_goals (try (
    have het:=etick_out k3 (by assumption)
    obtain ⟨e1,e2⟩ | ⟨e1,e2,e3,e4,e5,⟨e6,e7,e8,e9,e10⟩ | ⟨e6,e7,e8,e9⟩⟩:=het))
  all_goals (try (exact (bno1 e6 (by assumption)).elim))
  all_goals (try (exact (bno2 e6 (by assumption)).elim))
  all_goals (try (exact (bno1 (by assumption) e6).elim))
  all_goals (try have hb:=bnot hb)
  all_goals (try subst_vars)
  all_goals (try simp only [List.nil_append,List.length_nil,List.length_cons,List.length_append] at *)
  all_goals (try (
    have hf:=frzF_out (by assumption) (by omega) (by omega) k11 k4 k12
    obtain ⟨z1,z2⟩ | ⟨z1,z2,z3⟩:=hf))
  all_goals (try (have hdu:=due_out (by assumption) k9 (by omega) (by omega);obtain ⟨y1,y2,y3⟩:=hdu))
  all_goals (try subst_vars)
  all_goals (try (exfalso;omega))
  all_goals (try simp (disch:=omega) only [w64_id] at *)
  all_goals first
    | assumption
    | omega
    | exact hs6.2
    | exact hs5.2
    | exact (due_ls hs6).1
    | exact (due_ls hs6).2
    | exact ⟨k1,k2⟩
    | exact wtI.zt
    | exact wtI.zf
    | exact wtI.hit (by assumption) (by omega) (by assumption) rfl rfl
    | exact wtI.hit (by assumption) (by omega) (by assumption) (by assumption) rfl
    | exact wtI.miss (by assumption) (by omega) (by assumption) (by assumption) rfl
    | exact wtI.off (by assumption) (by omega) rfl
    | exact hR _ (tick_noE (by assumption))
    | exact hR _ (tick_down hp rfl)
    | exact hR _ (tick_down (not_if8' (p:=p_node _) rfl (by assumption)) rfl)
    | exact hR _ (tick_max hp rfl rfl)
    | exact hR _ (tick_max hp rfl (by assumption))
    | exact hR _ (tick_full hp rfl (by assumption) ⟨by assumption,by assumption⟩ ⟨by assumption,by assumption⟩)
    | (have z:=tickL_stay (f:=b33) hp (by assumption) (by assumption) (by assumption) (by omega) (by omega);exact hR _ z)
    | (have ht:=‹p_tags _ _ _›;have z:=tickL_tt (f:=b33) (hl:=ht) hp (by assumption) ⟨by assumption,by assumption⟩ (by omega) (by assumption) ⟨by assumption,by assumption⟩ (by assumption);exact hR _ z)
    | (have ht:=‹p_tags _ _ _›;have z:=tickL_ft (f:=b33) (hl:=ht) hp (by assumption) ⟨by assumption,by assumption⟩ (by omega) (by omega) ⟨by assumption,by assumption⟩ (by assumption);exact hR _ z)
    | (have z:=tickL_ff (f:=b33) hp (by assumption) ⟨by assumption,by assumption⟩ (by omega) (by omega) (by assumption);exact hR _ z)
    | skip
theorem con_nodeTickF:Con Go.Proofs.Tryz.prog k0 30 t_nodeTickF :=
  con_of (cxf_ok mixOk (fun p hp=>by
    simp only [List.mem_cons,List.not_mem_nil,or_false] at hp
    rcases hp with rfl | rfl | rfl | rfl | rfl | rfl | rfl | rfl | rfl | rfl | rfl | rfl | rfl | rfl | rfl | rfl | rfl
    · exact con_nodeCheckF
    · exact con_epochTick
    · exact con_timerDueF
    · exact con_clone32
    · exact con_cloneI
    · exact con_cloneTi
    · exact con_cloneDe
    · exact con_dyTwin
    · exact con_massTwin
    · exact con_partTwin
    · exact con_cacheTwin
    · exact con_pastTwin
    · exact con_partSame
    · exact con_massSeed
    · exact con_edgeOf
    · exact con_tags
    · exact con_freezeF) (fun p hp=>by
    simp only [List.mem_cons,List.not_mem_nil,or_false] at hp
    rcases hp with rfl | rfl | rfl | rfl | rfl | rfl | rfl | rfl | rfl | rfl | rfl | rfl | rfl | rfl | rfl | rfl
    · intro t ht;cases ht;exact fn_nodeCheckF
    · intro t ht;cases ht;exact fn_epochTick
    · intro t ht;cases ht;exact fn_timerDueF
    · intro t ht;cases ht;exact fn_clone32
    · intro t ht;cases ht;exact fn_cloneI
    · intro t ht;cases ht;exact fn_cloneTi
    · intro t ht;cases ht;exact fn_cloneDe
    · intro t ht;cases ht;exact fn_dyTwin
    · intro t ht;cases ht;exact fn_massTwin
    · intro t ht;cases ht;exact fn_partTwin
    · intro t ht;cases ht;exact fn_cacheTwin
    · intro t ht;cases ht;exact fn_pastTwin
    · intro t ht;cases ht;exact fn_partSame
    · intro t ht;cases ht;exact fn_massSeed
    · intro t ht;cases ht;exact fn_edgeOf
    · intro t ht;cases ht;exact fn_freezeF)) Go.Proofs.Tryz.func30 rfl rfl rfl rfl vcEq_nodeTickF vcPf_nodeTickF
end Go.Vc

namespace Go.Vc
open Classical
def f_nodeCrashF (aa:List DV):List DV:=m_crash (ai aa 0)
def t_nodeCrashF:ConT:=⟨[rkS nodeS],[rkS nodeS,kl,kn],fun aa=>DShs nodeS (ai aa 0),fun aa rs=>rs=f_nodeCrashF aa⟩
theorem fn_nodeCrashF:∀ aa,t_nodeCrashF.pre aa→∀ rs,t_nodeCrashF.post aa rs→rs=f_nodeCrashF aa:=fun _ _ _ h=>h
def V_nodeCrashF:Prop:=∀ (x0 x1:Int) (b2:Bool) (x3 x4 x5 x6 x7:Int) (b8:Bool) (l9:LL) (x10:Int) (b11:Bool) (l12:LL) (x13:Int) (b14:Bool) (l15:LL) (x16:Int) (b17:Bool) (l18:LL) (x19:Int) (b20:Bool) (x21 x22:Int) (l23:LL) (b24:Bool) (x25 x26:Int) (l27:LL) (x28 x29:Int) (l30 l31 l32:LL),Ob (DShs nodeS [dn x0,dn x1,db b2,dn x3,dn x4,dn x5,dn x6,dn x7,db b8,D.fs l9,dn x10,db b11,D.fs l12,dn x13,db b14,D.fs l15,dn x16,db b17,D.fs l18,dn x19,db b20,dn x21,dn x22,D.fs l23,db b24,dn x25,dn x26,D.fs l27,dn x28,dn x29,D.fs l30,D.fs l31,D.fs l32])→∀ (R:List DV→Prop),Ob (∀ (res:List DV),res=m_crash [dn x0,dn x1,db b2,dn x3,dn x4,dn x5,dn x6,dn x7,db b8,D.fs l9,dn x10,db b11,D.fs l12,dn x13,db b14,D.fs l15,dn x16,db b17,D.fs l18,dn x19,db b20,dn x21,dn x22,D.fs l23,db b24,dn x25,dn x26,D.fs l27,dn x28,dn x29,D.fs l30,D.fs l31,D.fs l32]→R res)→Ob (DShs nodeS [dn x0,dn x1,db b2,dn x3,dn x4,dn x5,dn x6,dn x7,db b8,D.fs l9,dn x10,db b11,D.fs l12,dn x13,db b14,D.fs l15,dn x16,db b17,D.fs l18,dn x19,db b20,dn x21,dn x22,D.fs l23,db b24,dn x25,dn x26,D.fs l27,dn x28,dn x29,D.fs l30,D.fs l31,D.fs l32])∧∀ (x34:Int),Ob ([vn x34]=[vn (if p_node [dn x0,dn x1,db b2,dn x3,dn x4,dn x5,dn x6,dn x7,db b8,D.fs l9,dn x10,db b11,D.fs l12,dn x13,db b14,D.fs l15,dn x16,db b17,D.fs l18,dn x19,db b20,dn x21,dn x22,D.fs l23,db b24,dn x25,dn x26,D.fs l27,dn x28,dn x29,D.fs l30,D.fs l31,D.fs l32] then (0:Int) else (8:Int))])→(x34≠(0:Int)→(x34≠(0:Int)→Ob (R [DV.a [dn (0:Int),dn (0:Int),db false,dn (0:Int),dn (0:Int),dn (0:Int),dn (0:Int),dn (0:Int),db false,D.fs [],dn (0:Int),db false,D.fs [],dn (0:Int),db false,D.fs [],dn (0:Int),db false,D.fs [],dn (0:Int),db false,dn (0:Int),dn (0:Int),D.fs [],db false,dn (0:Int),dn (0:Int),D.fs [],dn (0:Int),dn (0:Int),D.fs [],D.fs [],D.fs []],vl [],vn x34]))∧(¬x34≠(0:Int)→Ob False))∧(¬x34≠(0:Int)→(b2=false→Ob (R [DV.a [dn (0:Int),dn (0:Int),db false,dn (0:Int),dn (0:Int),dn (0:Int),dn (0:Int),dn (0:Int),db false,D.fs [],dn (0:Int),db false,D.fs [],dn (0:Int),db false,D.fs [],dn (0:Int),db false,D.fs [],dn (0:Int),db false,dn (0:Int),dn (0:Int),D.fs [],db false,dn (0:Int),dn (0:Int),D.fs [],dn (0:Int),dn (0:Int),D.fs [],D.fs [],D.fs []],vl [],vn (14:Int)]))∧(¬b2=false→Ob (DShs partS [db b8,D.fs l9,dn x10,db b11,D.fs l12,dn x13,db b14,D.fs l15,dn x16,db b17,D.fs l18,dn x19,db b20,dn x21,dn x22,D.fs l23]∧List.length l9≤(1048576:Nat)∧List.length l12≤(1048576:Nat)∧List.length l15≤(1048576:Nat)∧List.length l18≤(1048576:Nat)∧List.length l23≤(1048576:Nat))∧∀ (b35:Bool) (l36:LL) (x37:Int) (b38:Bool) (l39:LL) (x40:Int) (b41:Bool) (l42:LL) (x43:Int) (b44:Bool) (l45:LL) (x46:Int) (b47:Bool) (x48 x49:Int) (l50:LL),Ob ([DV.a [db b35,D.fs l36,dn x37,db b38,D.fs l39,dn x40,db b41,D.fs l42,dn x43,db b44,D.fs l45,dn x46,db b47,dn x48,dn x49,D.fs l50]]=[DV.a [db b8,D.fs l9,dn x10,db b11,D.fs l12,dn x13,db b14,D.fs l15,dn x16,db b17,D.fs l18,dn x19,db b20,dn x21,dn x22,D.fs l23]])→Ob (LSh [s64] l27∧List.length l27≤(1048576:Nat))∧∀ (l51:LL),Ob ([vl l51]=[vl l27])→Ob (DShs cacheS [dn x28,dn x29,D.fs l30]∧List.length l30≤(1048576:Nat))∧∀ (x52 x53:Int) (l54:LL),Ob ([DV.a [dn x52,dn x53,D.fs l54]]=[DV.a [dn x28,dn x29,D.fs l30]])→(l31=[]→Ob (LSh pairS l32∧List.length l32≤(1048576:Nat))∧∀ (l55:LL),Ob ([vl l55]=[vl l32])→(x6≥x7→∀ (l56:LL),l56=[[dn x6,db b35,D.fs l36,dn x37,db b38,D.fs l39,dn x40,db b41,D.fs l42,dn x43,db b44,D.fs l45,dn x46,db b47,dn x48,dn x49,D.fs l50]]→Ob (R [DV.a [dn x0,dn (0:Int),db false,dn (0:Int),dn (0:Int),dn (0:Int),dn (0:Int),dn (0:Int),db false,D.fs [],dn (0:Int),db false,D.fs [],dn (0:Int),db false,D.fs [],dn (0:Int),db false,D.fs [],dn (0:Int),db false,dn (0:Int),dn (0:Int),D.fs [],db false,dn (0:Int),dn (0:Int),D.fs [],dn (0:Int),dn (0:Int),D.fs [],D.fs [],D.fs []],vl l56,vn (0:Int)]))∧(¬x6≥x7→Ob (R [DV.a [dn x0,dn (0:Int),db false,dn (0:Int),dn (0:Int),dn (0:Int),dn (0:Int),dn (0:Int),db false,D.fs [],dn (0:Int),db false,D.fs [],dn (0:Int),db false,D.fs [],dn (0:Int),db false,D.fs [],dn (0:Int),db false,dn (0:Int),dn (0:Int),D.fs [],db false,dn (0:Int),dn (0:Int),D.fs [],dn (0:Int),dn (0:Int),D.fs [],D.fs [],D.fs []],vl [],vn (0:Int)])))∧Ob (Rect (17) l31∧List.length ([]:LL)+List.length l31≤(1048576:Nat))∧∀ (l57:LL),l57=[]++l31→∀ (x58:Int),x58=(↑(List.length l57):Int)→Ob ((0:Int)≤(0:Int)∧l57=l57)∧∀ (g59:Nat→Value) (x60:Int) (l61:LL),Ob ((0:Int)≤x60∧l61=l57)→(x60<x58→Ob ((0:Int)≤x60∧x60<(↑(List.length l61):Int))∧∀ (x62:Int),x62=x60→Ob ((0:Int)≤x62∧x62<(↑(List.length l61):Int))∧Ob (Shp [Kd.int IntKind.i64,Kd.bool,Kd.sl,Kd.int IntKind.i64,Kd.bool,Kd.sl,Kd.int IntKind.i64,Kd.bool,Kd.sl,Kd.int IntKind.i64,Kd.bool,Kd.sl,Kd.int IntKind.i64,Kd.bool,Kd.int IntKind.i64,Kd.int IntKind.i64,Kd.sl] l61)∧∀ (x63:Int) (b64:Bool) (l65:LL) (x66:Int) (b67:Bool) (l68:LL) (x69:Int) (b70:Bool) (l71:LL) (x72:Int) (b73:Bool) (l74:LL) (x75:Int) (b76:Bool) (x77 x78:Int) (l79:LL),Ob (l61[Int.toNat x62]?=some [dn x63,db b64,D.fs l65,dn x66,db b67,D.fs l68,dn x69,db b70,D.fs l71,dn x72,db b73,D.fs l74,dn x75,db b76,dn x77,dn x78,D.fs l79])→Ob (DShs partS [db b64,D.fs l65,dn x66,db b67,D.fs l68,dn x69,db b70,D.fs l71,dn x72,db b73,D.fs l74,dn x75,db b76,dn x77,dn x78,D.fs l79]∧List.length l65≤(1048576:Nat)∧List.length l68≤(1048576:Nat)∧List.length l71≤(1048576:Nat)∧List.length l74≤(1048576:Nat)∧List.length l79≤(1048576:Nat))∧∀ (b80:Bool) (l81:LL) (x82:Int) (b83:Bool) (l84:LL) (x85:Int) (b86:Bool) (l87:LL) (x88:Int) (b89:Bool) (l90:LL) (x91:Int) (b92:Bool) (x93 x94:Int) (l95:LL),Ob ([DV.a [db b80,D.fs l81,dn x82,db b83,D.fs l84,dn x85,db b86,D.fs l87,dn x88,db b89,D.fs l90,dn x91,db b92,dn x93,dn x94,D.fs l95]]=[DV.a [db b64,D.fs l65,dn x66,db b67,D.fs l68,dn x69,db b70,D.fs l71,dn x72,db b73,D.fs l74,dn x75,db b76,dn x77,dn x78,D.fs l79]])→Ob ((0:Int)≤x60∧x60<(↑(List.length l61):Int))∧∀ (x96:Int),x96=x60→Ob ((0:Int)≤x96∧x96<(↑(List.length l61):Int))∧∀ (l97:LL),l97=List.set l61 (Int.toNat x96) (putAt (List.getD l61 (Int.toNat x96) []) (1) [db b80,D.fs l81,dn x82,db b83,D.fs l84,dn x85,db b86,D.fs l87,dn x88,db b89,D.fs l90,dn x91,db b92,dn x93,dn x94,D.fs l95])→∀ (x98:Int),x98=w64 (x60+(1:Int))→Ob ((0:Int)≤x98∧l97=l57)∧Ob (List.length l57-Int.toNat x98<List.length l57-Int.toNat x60))∧(¬x60<x58→Ob (LSh pairS l32∧List.length l32≤(1048576:Nat))∧∀ (l99:LL),Ob ([vl l99]=[vl l32])→(x6≥x7→Ob (List.length l61+List.length [[dn x6,db b35,D.fs l36,dn x37,db b38,D.fs l39,dn x40,db b41,D.fs l42,dn x43,db b44,D.fs l45,dn x46,db b47,dn x48,dn x49,D.fs l50]]≤(1048576:Nat))∧∀ (l100:LL),l100=l61++[[dn x6,db b35,D.fs l36,dn x37,db b38,D.fs l39,dn x40,db b41,D.fs l42,dn x43,db b44,D.fs l45,dn x46,db b47,dn x48,dn x49,D.fs l50]]→Ob (R [DV.a [dn x0,dn (0:Int),db false,dn (0:Int),dn (0:Int),dn (0:Int),dn (0:Int),dn (0:Int),db false,D.fs [],dn (0:Int),db false,D.fs [],dn (0:Int),db false,D.fs [],dn (0:Int),db false,D.fs [],dn (0:Int),db false,dn (0:Int),dn (0:Int),D.fs [],db false,dn (0:Int),dn (0:Int),D.fs [],dn (0:Int),dn (0:Int),D.fs [],D.fs [],D.fs []],vl l100,vn (0:Int)]))∧(¬x6≥x7→Ob (R [DV.a [dn x0,dn (0:Int),db false,dn (0:Int),dn (0:Int),dn (0:Int),dn (0:Int),dn (0:Int),db false,D.fs [],dn (0:Int),db false,D.fs [],dn (0:Int),db false,D.fs [],dn (0:Int),db false,D.fs [],dn (0:Int),db false,dn (0:Int),dn (0:Int),D.fs [],db false,dn (0:Int),dn (0:Int),D.fs [],dn (0:Int),dn (0:Int),D.fs [],D.fs [],D.fs []],vl l61,vn (0:Int)])))))
set_option maxRecDepth 100000 in
theorem vcEq_nodeCrashF:vcFn Go.Proofs.Tryz.prog k0 (cxf [(40,t_nodeCheckF),(222,t_clone32),(153,t_cloneI),(156,t_cloneTi),(231,t_cloneDe),(234,t_dyTwin),(159,t_massTwin),(137,t_partTwin),(154,t_cacheTwin)] [(25000399011304101751338420396,0,some ⟨[3,8],[9],[],[kn],[⟨0,79,17,false, .row 61⟩],fun ρ ds=>0≤ni ds 0∧li ds 1=ρ.d 60,fun ρ ds=>(ρ.d 60).length-(ni ds 0).toNat,none⟩)] [] [(40,f_nodeCheckF),(222,f_clone32),(153,f_cloneI),(156,f_cloneTi),(231,f_cloneDe),(234,f_dyTwin),(159,f_massTwin),(137,f_partTwin),(154,f_cacheTwin)]) 3000 25 Go.Proofs.Tryz.f25 (bodyOf Go.Proofs.Tryz.f25) t_nodeCrashF=V_nodeCrashF:=by kernel_rfl
set_option maxHeartbeats 4000000 in
set_option maxRecDepth 20000 in
theorem vcPf_nodeCrashF:V_nodeCrashF:=by
  delta V_nodeCrashF
  simp (config:={ maxSteps:=4000000 }) only [ob_iff,and_imp,forall_exists_index,true_and,and_true,List.cons.injEq,DV.c.injEq,DV.a.injEq,D.raw.injEq,D.fs.injEq,Value.bool.injEq,Value.int.injEq]
  intro x0 x1 b2 x3 x4 x5 x6 x7 b8 l9 x10 b11 l12 x13 b14 l15 x16 b17 l18 x19 b20 x21 x22 l23 b24 x25 x26 l27 x28 x29 l30 l31 l32 hsh R hR
  obtain ⟨hs1,hs2,hs3,hs4,hs5,hs6⟩:=node_sh hsh
  repeat' first | assumption | exact DShs.tail (DSh_nth (by assumption) (by assumption)) | exact shp32 (by assumption) | exact shp64 (by assumption) | exact shp2 (by assumption) | exact shpF (by assumption) | with_reducible intro _ | with_reducible apply And.intro
  all_goals (try (
    have hb:¬b2=false:=(by assumption)
    have hp:=not_if8' (p:=p_node _) (by assumption) (by assumption)
    obtain ⟨q1,q2,q3,q4,q5,q6,q7,q8,q9,q10⟩:=node_lims hb hp.1
    obtain ⟨f1,f2,f3,f4⟩:=node_f hp.1
    obtain ⟨k1,k2,k3,k4,k5,k6,k7,k8,k9,k10,k11,k12,k13,k14,k15⟩:=f4 (by simpa using hb)
    obtain ⟨c1,c2,c3,c4,c5,c6,c7,c8,c9,c10⟩:=clock_b k3))
  all_goals (try have hb:=bnot hb)
  all_goals (try subst_vars)
  all_goals (try simp only [List.nil_append,List.length_nil,List.length_cons,List.length_append] at *)
  all_goals first
    | assumption
    | omega
    | exact hs6.2
    | exact hs5.2
    | exact shpF hs5.2
    | exact ⟨k1,k2⟩
    | exact set_part (by assumption) rfl
    | exact LS.rect hs5.2
    | exact DShs.tail (DSh_nth (by assumption) hs5.2)
    | (rw [w64_id (by omega) (by omega)];omega)
    | (obtain ⟨r1,r2,r3,r4,r5⟩:=past_lims (by assumption) q10;omega)
    | exact hR _ (crash_noE (by assumption))
    | exact hR _ (crash_down (not_if8' (p:=p_node _) rfl (by assumption)) rfl)
    | (have z:=crashL_t hp (by omega);exact hR _ z)
    | (have z:=crashL_n hp (by omega);exact hR _ z)
    | skip
theorem con_nodeCrashF:Con Go.Proofs.Tryz.prog k0 25 t_nodeCrashF :=
  con_of (cxf_ok mixOk (fun p hp=>by
    simp only [List.mem_cons,List.not_mem_nil,or_false] at hp
    rcases hp with rfl | rfl | rfl | rfl | rfl | rfl | rfl | rfl | rfl
    · exact con_nodeCheckF
    · exact con_clone32
    · exact con_cloneI
    · exact con_cloneTi
    · exact con_cloneDe
    · exact con_dyTwin
    · exact con_massTwin
    · exact con_partTwin
    · exact con_cacheTwin) (fun p hp=>by
    simp only [List.mem_cons,List.not_mem_nil,or_false] at hp
    rcases hp with rfl | rfl | rfl | rfl | rfl | rfl | rfl | rfl | rfl
    · intro t ht;cases ht;exact fn_nodeCheckF
    · intro t ht;cases ht;exact fn_clone32
    · intro t ht;cases ht;exact fn_cloneI
    · intro t ht;cases ht;exact fn_cloneTi
    · intro t ht;cases ht;exact fn_cloneDe
    · intro t ht;cases ht;exact fn_dyTwin
    · intro t ht;cases ht;exact fn_massTwin
    · intro t ht;cases ht;exact fn_partTwin
    · intro t ht;cases ht;exact fn_cacheTwin)) Go.Proofs.Tryz.func25 rfl rfl rfl rfl vcEq_nodeCrashF vcPf_nodeCrashF
end Go.Vc

namespace Go.Vc
open Classical
def f_nodeSame (aa:List DV):List DV:=[vb (decide (ai aa 0=ai aa 1))]
def t_nodeSame:ConT:=⟨[rkS nodeS,rkS nodeS],[kb],fun aa=>DShs nodeS (ai aa 0)∧DShs nodeS (ai aa 1),fun aa rs=>rs=f_nodeSame aa⟩
theorem fn_nodeSame:∀ aa,t_nodeSame.pre aa→∀ rs,t_nodeSame.post aa rs→rs=f_nodeSame aa:=fun _ _ _ h=>h
def V_nodeSame:Prop:=∀ (x0 x1:Int) (b2:Bool) (x3 x4 x5 x6 x7:Int) (b8:Bool) (l9:LL) (x10:Int) (b11:Bool) (l12:LL) (x13:Int) (b14:Bool) (l15:LL) (x16:Int) (b17:Bool) (l18:LL) (x19:Int) (b20:Bool) (x21 x22:Int) (l23:LL) (b24:Bool) (x25 x26:Int) (l27:LL) (x28 x29:Int) (l30 l31 l32:LL) (x33 x34:Int) (b35:Bool) (x36 x37 x38 x39 x40:Int) (b41:Bool) (l42:LL) (x43:Int) (b44:Bool) (l45:LL) (x46:Int) (b47:Bool) (l48:LL) (x49:Int) (b50:Bool) (l51:LL) (x52:Int) (b53:Bool) (x54 x55:Int) (l56:LL) (b57:Bool) (x58 x59:Int) (l60:LL) (x61 x62:Int) (l63 l64 l65:LL),Ob (DShs nodeS [dn x0,dn x1,db b2,dn x3,dn x4,dn x5,dn x6,dn x7,db b8,D.fs l9,dn x10,db b11,D.fs l12,dn x13,db b14,D.fs l15,dn x16,db b17,D.fs l18,dn x19,db b20,dn x21,dn x22,D.fs l23,db b24,dn x25,dn x26,D.fs l27,dn x28,dn x29,D.fs l30,D.fs l31,D.fs l32]∧DShs nodeS [dn x33,dn x34,db b35,dn x36,dn x37,dn x38,dn x39,dn x40,db b41,D.fs l42,dn x43,db b44,D.fs l45,dn x46,db b47,D.fs l48,dn x49,db b50,D.fs l51,dn x52,db b53,dn x54,dn x55,D.fs l56,db b57,dn x58,dn x59,D.fs l60,dn x61,dn x62,D.fs l63,D.fs l64,D.fs l65])→∀ (R:List DV→Prop),Ob (∀ (res:List DV),res=[vb (decide ([dn x0,dn x1,db b2,dn x3,dn x4,dn x5,dn x6,dn x7,db b8,D.fs l9,dn x10,db b11,D.fs l12,dn x13,db b14,D.fs l15,dn x16,db b17,D.fs l18,dn x19,db b20,dn x21,dn x22,D.fs l23,db b24,dn x25,dn x26,D.fs l27,dn x28,dn x29,D.fs l30,D.fs l31,D.fs l32]=[dn x33,dn x34,db b35,dn x36,dn x37,dn x38,dn x39,dn x40,db b41,D.fs l42,dn x43,db b44,D.fs l45,dn x46,db b47,D.fs l48,dn x49,db b50,D.fs l51,dn x52,db b53,dn x54,dn x55,D.fs l56,db b57,dn x58,dn x59,D.fs l60,dn x61,dn x62,D.fs l63,D.fs l64,D.fs l65]))]→R res)→(x0=x33→(x1=x34→(b2=b35→(x3=x36∧x4=x37∧x5=x38∧x6=x39∧x7=x40→(b24=b57∧x25=x58∧x26=x59→Ob (DShs partS [db b8,D.fs l9,dn x10,db b11,D.fs l12,dn x13,db b14,D.fs l15,dn x16,db b17,D.fs l18,dn x19,db b20,dn x21,dn x22,D.fs l23]∧DShs partS [db b41,D.fs l42,dn x43,db b44,D.fs l45,dn x46,db b47,D.fs l48,dn x49,db b50,D.fs l51,dn x52,db b53,dn x54,dn x55,D.fs l56])∧∀ (b67:Bool),Ob ([vb b67]=[vb (decide ([db b8,D.fs l9,dn x10,db b11,D.fs l12,dn x13,db b14,D.fs l15,dn x16,db b17,D.fs l18,dn x19,db b20,dn x21,dn x22,D.fs l23]=[db b41,D.fs l42,dn x43,db b44,D.fs l45,dn x46,db b47,D.fs l48,dn x49,db b50,D.fs l51,dn x52,db b53,dn x54,dn x55,D.fs l56]))])→(b67=true→Ob (LSh [s64] l27∧LSh [s64] l60)∧∀ (b68:Bool),Ob ([vb b68]=[vb (decide (l27=l60))])→(b68=true→Ob (DShs cacheS [dn x28,dn x29,D.fs l30]∧DShs cacheS [dn x61,dn x62,D.fs l63])∧∀ (b69:Bool),Ob ([vb b69]=[vb (decide ([dn x28,dn x29,D.fs l30]=[dn x61,dn x62,D.fs l63]))])→(b69=true→Ob (LSh frozS l31∧LSh frozS l64)∧∀ (b70:Bool),Ob ([vb b70]=[vb (decide (l31=l64))])→(b70=true→Ob (LSh pairS l32∧LSh pairS l65)∧∀ (b71:Bool),Ob ([vb b71]=[vb (decide (l32=l65))])→Ob (R [vb b71]))∧(b70=false→Ob (R [vb false])))∧(b69=false→Ob (R [vb false])))∧(b68=false→Ob (R [vb false])))∧(b67=false→Ob (R [vb false])))∧(¬(b24=b57∧x25=x58∧x26=x59)→Ob (R [vb false])))∧(¬(x3=x36∧x4=x37∧x5=x38∧x6=x39∧x7=x40)→Ob (R [vb false])))∧(¬b2=b35→Ob (R [vb false])))∧(¬x1=x34→Ob (R [vb false])))∧(¬x0=x33→Ob (R [vb false]))
set_option maxRecDepth 100000 in
theorem vcEq_nodeSame:vcFn Go.Proofs.Tryz.prog k0 (cxf [(28,t_partSame),(27,t_pastSame),(102,t_cacheSame),(101,t_eqI),(103,t_eqTi)] [] [] [(28,f_partSame),(27,f_pastSame),(102,f_cacheSame),(101,f_eqI),(103,f_eqTi)]) 3000 26 Go.Proofs.Tryz.f26 (bodyOf Go.Proofs.Tryz.f26) t_nodeSame=V_nodeSame:=by kernel_rfl
set_option maxHeartbeats 4000000 in
set_option maxRecDepth 20000 in
theorem vcPf_nodeSame:V_nodeSame:=by
  delta V_nodeSame
  simp only [ob_iff,and_imp,List.cons_append,List.nil_append,dshs_cons,dshs_nil,dsh_int,dsh_bool,dsh_sl,rng64,rng32,true_and,and_true,List.cons.injEq,DV.c.injEq,DV.a.injEq,D.raw.injEq,D.fs.injEq,Value.bool.injEq,Value.int.injEq]
  repeat' first | assumption | exact DShs.tail (DSh_nth (by assumption) (by assumption)) | exact shp32 (by assumption) | exact shp64 (by assumption) | exact shp2 (by assumption) | exact shpF (by assumption) | with_reducible intro _ | with_reducible apply And.intro
  all_goals first
    | assumption
    | omega
    | (apply ‹∀ res:List DV,_=_→_›;simp_all)
    | grind
theorem con_nodeSame:Con Go.Proofs.Tryz.prog k0 26 t_nodeSame :=
  con_of (cxf_ok mixOk (fun p hp=>by
    simp only [List.mem_cons,List.not_mem_nil,or_false] at hp
    rcases hp with rfl | rfl | rfl | rfl | rfl
    · exact con_partSame
    · exact con_pastSame
    · exact con_cacheSame
    · exact con_eqI
    · exact con_eqTi) (fun p hp=>by
    simp only [List.mem_cons,List.not_mem_nil,or_false] at hp
    rcases hp with rfl | rfl | rfl | rfl | rfl
    · intro t ht;cases ht;exact fn_partSame
    · intro t ht;cases ht;exact fn_pastSame
    · intro t ht;cases ht;exact fn_cacheSame
    · intro t ht;cases ht;exact fn_eqI
    · intro t ht;cases ht;exact fn_eqTi)) Go.Proofs.Tryz.func26 rfl rfl rfl rfl vcEq_nodeSame vcPf_nodeSame
end Go.Vc
