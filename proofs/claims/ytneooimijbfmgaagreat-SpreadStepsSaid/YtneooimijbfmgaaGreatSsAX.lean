import Derived.Test.YtneooimijbfmgaaGreatProg
import Derived.KernelRfl
import Derived.Test.YtneooimijbfmgaaGreatSsAS
import Derived.Test.YtneooimijbfmgaaGreatSsAT
import Derived.Test.YtneooimijbfmgaaGreatSsAW
set_option linter.unusedVariables false
set_option linter.unusedSimpArgs false
set_option linter.unusedSectionVars false
set_option maxHeartbeats 4000000
set_option maxRecDepth 100000
noncomputable section
namespace Go.Vc
open Classical
def Aei (aa:List DV):List DV:=Dp (li aa 0)
def Adn:ConT:=⟨[kl],[kl,kn],fun aa=>LSh pairS (li aa 0)∧(li aa 0).length≤12,fun aa rs=>rs=Aei aa⟩
def Afx:Prop:=let N0:=((0:Nat)<(1:Nat));∀ (l0:LL),Ob (LSh pairS l0∧l0.length≤12)→∀ (R:List DV→Prop),Ob (∀ (res:List DV),res=Dp l0→R res)→Ob (LSh pairS l0)∧∀ x2,Ob ([vn x2]=[vn (Bk l0)])→(x2≠0→(x2≠0→Ob (R [vl [],vn x2]))∧(¬x2≠0→Ob (R [vl [],vn 0])))∧(¬x2≠0→(l0=[]→Ob ((0:Int)≤IntKind.wrap IntKind.u64 (↑(0:Nat):Int)∧IntKind.wrap IntKind.u64 (↑(0:Nat):Int)<(16:Int))∧∀ x3,Ob (∃ x,[vn x3]=[vn x])→Ob (R [vl [],vn 0]))∧Ob (Shp kP l0∧List.length ([]:LL)+l0.length≤1048576)∧∀ (l4:LL),l4=[]++l0→∀ x5:Int,x5=l4.length→∀ x6:Int,x6=IntKind.wrap IntKind.u64 x5→Ob (0≤x6∧x6<16)∧∀ x7,Ob (∃ x,[vn x7]=[vn x])→∀ x8:Int,x8=w64 (x5-0)→Ob (x8≤12)∧Ob ((1:Int)≤w64 ((0:Int)+(1:Int))∧insI l4 l4 (w64 ((0:Int)+(1:Int))))∧∀ (g9:NV) (x10:Int) (l11:LL),Ob (1≤x10∧insI l4 l11 x10)→(x10<x5→Ob (0≤x10∧x10≤x10∧insJ l4 l11 x10 x10)∧∀ (g12:NV) (x13:Int) (l14:LL),let N2:=(Shp kP l14);let N1:=(0≤x13∧x13<l14.length);Ob (0≤x13∧x13≤x10∧insJ l4 l14 x10 x13)→(x13>0→Ob N1∧∀ x15:Int,x15=x13→Ob (0≤x15∧x15<l14.length)∧Ob N2∧∀ x16 x17,Ob (l14[x15.toNat]?=some [dn x16,dn x17])→∀ x18:Int,x18=w64 (x13-1)→Ob (0≤x18∧x18<l14.length)∧∀ x19:Int,x19=x18→Ob (0≤x19∧x19<l14.length)∧Ob N2∧∀ x20 x21,Ob (l14[x19.toNat]?=some [dn x20,dn x21])→Ob True∧∀ x22,Ob ([vn x22]=[vn (cmpI x21 x17)])→Ob True∧∀ x23,Ob ([vn x23]=[vn (cmpI x16 x20)])→(x22≠0→(x22<0→∀ x24:Int,x24=w64 (x13-1)→∀ x25:Int,x25=w64 (x13-1)→Ob (0≤x25∧x25<l14.length)∧∀ x26:Int,x26=x25→Ob (0≤x26∧x26<l14.length)∧Ob N2∧∀ x27 x28,Ob (l14[x26.toNat]?=some [dn x27,dn x28])→Ob N1∧∀ x29:Int,x29=x13→Ob (0≤x29∧x29<l14.length)∧Ob N2∧∀ x30 x31,Ob (l14[x29.toNat]?=some [dn x30,dn x31])→Ob N1∧∀ x32:Int,x32=x13→Ob (0≤x32∧x32<l14.length)∧∀ (l33:LL),l33=List.set l14 (x32.toNat) [dn x27,dn x28]→Ob (0≤x24∧x24<l33.length)∧∀ x34:Int,x34=x24→Ob (0≤x34∧x34<l33.length)∧∀ (l35:LL),l35=List.set l33 (x34.toNat) [dn x30,dn x31]→∀ x36:Int,x36=w64 (x13-1)→Ob (0≤x36∧x36≤x10∧insJ l4 l35 x10 x36)∧Ob (x36.toNat<x13.toNat))∧(¬x22<0→∀ x37:Int,x37=w64 (x10+1)→Ob (1≤x37∧insI l4 l14 x37)∧Ob (l4.length-x37.toNat<l4.length-x10.toNat)))∧(¬x22≠0→(x23≠0→(x23<0→∀ x38:Int,x38=w64 (x13-1)→∀ x39:Int,x39=w64 (x13-1)→Ob (0≤x39∧x39<l14.length)∧∀ x40:Int,x40=x39→Ob (0≤x40∧x40<l14.length)∧Ob N2∧∀ x41 x42,Ob (l14[x40.toNat]?=some [dn x41,dn x42])→Ob N1∧∀ x43:Int,x43=x13→Ob (0≤x43∧x43<l14.length)∧Ob N2∧∀ x44 x45,Ob (l14[x43.toNat]?=some [dn x44,dn x45])→Ob N1∧∀ x46:Int,x46=x13→Ob (0≤x46∧x46<l14.length)∧∀ (l47:LL),l47=List.set l14 (x46.toNat) [dn x41,dn x42]→Ob (0≤x38∧x38<l47.length)∧∀ x48:Int,x48=x38→Ob (0≤x48∧x48<l47.length)∧∀ (l49:LL),l49=List.set l47 (x48.toNat) [dn x44,dn x45]→∀ x50:Int,x50=w64 (x13-1)→Ob (0≤x50∧x50≤x10∧insJ l4 l49 x10 x50)∧Ob (x50.toNat<x13.toNat))∧(¬x23<0→∀ x51:Int,x51=w64 (x10+1)→Ob (1≤x51∧insI l4 l14 x51)∧Ob (l4.length-x51.toNat<l4.length-x10.toNat)))∧(¬x23≠0→∀ x52:Int,x52=w64 (x10+1)→Ob (1≤x52∧insI l4 l14 x52)∧Ob (l4.length-x52.toNat<l4.length-x10.toNat))))∧(¬x13>0→∀ x53:Int,x53=w64 (x10+1)→Ob (1≤x53∧insI l4 l14 x53)∧Ob (l4.length-x53.toNat<l4.length-x10.toNat)))∧(¬x10<x5→∀ x54:Int,x54=l11.length→Ob ((0:Int)≤(0:Int)∧upto (fstD l11) (0:Int)∧thA l11 (0:Int) [vn 0,vb false,vb false,vb false,vb false,vb false,vb false,vb false,vb false] (1:Nat))∧∀ (g55:NV) (x56:Int) (b57 b58 b59 b60 b61 b62 b63 b64:Bool),Ob (0≤x56∧upto (fstD l11) x56∧thA l11 x56 [vn x56,vb b57,vb b58,vb b59,vb b60,vb b61,vb b62,vb b63,vb b64] (1:Nat))→(x56<x54→Ob (0≤x56∧x56<l11.length)∧∀ x65:Int,x65=x56→Ob (0≤x65∧x65<l11.length)∧Ob (Shp kP l11)∧∀ (x66 x67:Int),let N3:=(0≤x66∧x66<(↑(8:Nat):Int));Ob (l11[x65.toNat]?=some [dn x66,dn x67])→(Ob N3∧(((((((True∧(Ob (x66=Int.ofNat (0))→Ob (wasA l11 x56 x66 b57)∧Ob N0))∧(Ob (x66=Int.ofNat (1))→Ob (wasA l11 x56 x66 b58)∧Ob N0))∧(Ob (x66=Int.ofNat (2))→Ob (wasA l11 x56 x66 b59)∧Ob N0))∧(Ob (x66=Int.ofNat (3))→Ob (wasA l11 x56 x66 b60)∧Ob N0))∧(Ob (x66=Int.ofNat (4))→Ob (wasA l11 x56 x66 b61)∧Ob N0))∧(Ob (x66=Int.ofNat (5))→Ob (wasA l11 x56 x66 b62)∧Ob N0))∧(Ob (x66=Int.ofNat (6))→Ob (wasA l11 x56 x66 b63)∧Ob N0))∧(Ob (x66=Int.ofNat (7))→Ob (wasA l11 x56 x66 b64)∧Ob N0))∧∀ (g68:NV) (b69:Bool),Ob (wasA l11 x56 x66 b69)→(Ob N3∧(((((((True∧(Ob (x66=Int.ofNat (0))→Ob (thA l11 (x56+1) [vb true,vb b58,vb b59,vb b60,vb b61,vb b62,vb b63,vb b64] (0:Nat))∧Ob N0))∧(Ob (x66=Int.ofNat (1))→Ob (thA l11 (x56+1) [vb b57,vb true,vb b59,vb b60,vb b61,vb b62,vb b63,vb b64] (0:Nat))∧Ob N0))∧(Ob (x66=Int.ofNat (2))→Ob (thA l11 (x56+1) [vb b57,vb b58,vb true,vb b60,vb b61,vb b62,vb b63,vb b64] (0:Nat))∧Ob N0))∧(Ob (x66=Int.ofNat (3))→Ob (thA l11 (x56+1) [vb b57,vb b58,vb b59,vb true,vb b61,vb b62,vb b63,vb b64] (0:Nat))∧Ob N0))∧(Ob (x66=Int.ofNat (4))→Ob (thA l11 (x56+1) [vb b57,vb b58,vb b59,vb b60,vb true,vb b62,vb b63,vb b64] (0:Nat))∧Ob N0))∧(Ob (x66=Int.ofNat (5))→Ob (thA l11 (x56+1) [vb b57,vb b58,vb b59,vb b60,vb b61,vb true,vb b63,vb b64] (0:Nat))∧Ob N0))∧(Ob (x66=Int.ofNat (6))→Ob (thA l11 (x56+1) [vb b57,vb b58,vb b59,vb b60,vb b61,vb b62,vb true,vb b64] (0:Nat))∧Ob N0))∧(Ob (x66=Int.ofNat (7))→Ob (thA l11 (x56+1) [vb b57,vb b58,vb b59,vb b60,vb b61,vb b62,vb b63,vb true] (0:Nat))∧Ob N0))∧∀ (g70:NV) (b71 b72 b73 b74 b75 b76 b77 b78:Bool),Ob (thA l11 (x56+1) [vb b71,vb b72,vb b73,vb b74,vb b75,vb b76,vb b77,vb b78] (0:Nat))→(b69=true→(x56 = -1→Ob (R [vl l11,vn 0]))∧(¬x56 = -1→∀ x79:Int,x79=w64 (x56+1)→Ob (delI (fstD l11) l11 l11 x56 x79∧thA l11 x79 [vn x79,vn x56,vb b71,vb b72,vb b73,vb b74,vb b75,vb b76,vb b77,vb b78,vl l11] (2:Nat))∧∀ (g80:NV) (x81 x82:Int) (b83 b84 b85 b86 b87 b88 b89 b90:Bool) (l91:LL),Ob (delI (fstD l11) l11 l91 x82 x81∧thA l11 x81 [vn x81,vn x82,vb b83,vb b84,vb b85,vb b86,vb b87,vb b88,vb b89,vb b90,vl l91] (2:Nat))→∀ x92:Int,x92=l91.length→(x81<x92→Ob (0≤x81∧x81<l91.length)∧∀ x93:Int,x93=x81→Ob (0≤x93∧x93<l91.length)∧Ob (Shp kP l91)∧∀ (x94 x95:Int),let N4:=(0≤x94∧x94<(↑(8:Nat):Int));Ob (l91[x93.toNat]?=some [dn x94,dn x95])→(Ob N4∧(((((((True∧(Ob (x94=Int.ofNat (0))→Ob (wasA l11 x81 x94 b83)∧Ob N0))∧(Ob (x94=Int.ofNat (1))→Ob (wasA l11 x81 x94 b84)∧Ob N0))∧(Ob (x94=Int.ofNat (2))→Ob (wasA l11 x81 x94 b85)∧Ob N0))∧(Ob (x94=Int.ofNat (3))→Ob (wasA l11 x81 x94 b86)∧Ob N0))∧(Ob (x94=Int.ofNat (4))→Ob (wasA l11 x81 x94 b87)∧Ob N0))∧(Ob (x94=Int.ofNat (5))→Ob (wasA l11 x81 x94 b88)∧Ob N0))∧(Ob (x94=Int.ofNat (6))→Ob (wasA l11 x81 x94 b89)∧Ob N0))∧(Ob (x94=Int.ofNat (7))→Ob (wasA l11 x81 x94 b90)∧Ob N0))∧∀ (g96:NV) (b97:Bool),Ob (wasA l11 x81 x94 b97)→(Ob N4∧(((((((True∧(Ob (x94=Int.ofNat (0))→Ob (thA l11 (x81+1) [vb true,vb b84,vb b85,vb b86,vb b87,vb b88,vb b89,vb b90] (0:Nat))∧Ob N0))∧(Ob (x94=Int.ofNat (1))→Ob (thA l11 (x81+1) [vb b83,vb true,vb b85,vb b86,vb b87,vb b88,vb b89,vb b90] (0:Nat))∧Ob N0))∧(Ob (x94=Int.ofNat (2))→Ob (thA l11 (x81+1) [vb b83,vb b84,vb true,vb b86,vb b87,vb b88,vb b89,vb b90] (0:Nat))∧Ob N0))∧(Ob (x94=Int.ofNat (3))→Ob (thA l11 (x81+1) [vb b83,vb b84,vb b85,vb true,vb b87,vb b88,vb b89,vb b90] (0:Nat))∧Ob N0))∧(Ob (x94=Int.ofNat (4))→Ob (thA l11 (x81+1) [vb b83,vb b84,vb b85,vb b86,vb true,vb b88,vb b89,vb b90] (0:Nat))∧Ob N0))∧(Ob (x94=Int.ofNat (5))→Ob (thA l11 (x81+1) [vb b83,vb b84,vb b85,vb b86,vb b87,vb true,vb b89,vb b90] (0:Nat))∧Ob N0))∧(Ob (x94=Int.ofNat (6))→Ob (thA l11 (x81+1) [vb b83,vb b84,vb b85,vb b86,vb b87,vb b88,vb true,vb b90] (0:Nat))∧Ob N0))∧(Ob (x94=Int.ofNat (7))→Ob (thA l11 (x81+1) [vb b83,vb b84,vb b85,vb b86,vb b87,vb b88,vb b89,vb true] (0:Nat))∧Ob N0))∧∀ (g98:NV) (b99 b100 b101 b102 b103 b104 b105 b106:Bool),Ob (thA l11 (x81+1) [vb b99,vb b100,vb b101,vb b102,vb b103,vb b104,vb b105,vb b106] (0:Nat))→(b97=false→Ob (0≤x82∧x82<l91.length)∧∀ x107:Int,x107=x82→Ob (0≤x107∧x107<l91.length)∧∀ (l108:LL),l108=List.set l91 (x107.toNat) [dn x94,dn x95]→∀ x109:Int,x109=w64 (x82+1)→∀ x110:Int,x110=w64 (x81+1)→Ob (delI (fstD l11) l11 l108 x109 x110∧thA l11 x110 [vn x110,vn x109,vb b99,vb b100,vb b101,vb b102,vb b103,vb b104,vb b105,vb b106,vl l108] (2:Nat))∧Ob (l11.length-x110.toNat<l11.length-x81.toNat))∧(¬b97=false→∀ x111:Int,x111=w64 (x81+1)→Ob (delI (fstD l11) l11 l91 x82 x111∧thA l11 x111 [vn x111,vn x82,vb b99,vb b100,vb b101,vb b102,vb b103,vb b104,vb b105,vb b106,vl l91] (2:Nat))∧Ob (l11.length-x111.toNat<l11.length-x81.toNat)))∧(¬x81<x92→Ob (0≤x82∧x82≤l91.length)∧∀ x112:Int,x112=x82→∀ (l113:LL),l113=List.take (x112.toNat) l91++List.replicate (l91.length-x112.toNat) [dn 0,dn 0]→Ob (0≤x82∧x82≤l113.length)∧∀ (l114:LL),l114=List.take (x82.toNat) l113→Ob (R [vl l114,vn 0]))))∧(b69=false→∀ x115:Int,x115=w64 (x56+1)→Ob (0≤x115∧upto (fstD l11) x115∧thA l11 x115 [vn x115,vb b71,vb b72,vb b73,vb b74,vb b75,vb b76,vb b77,vb b78] (1:Nat))∧Ob (l11.length-x115.toNat<l11.length-x56.toNat)))∧(¬x56<x54→Ob (R [vl l11,vn 0]))))
theorem Air:Afx:=by
  delta Afx
  simp only [Ac,and_imp,forall_exists_index,true_and,and_true,List.cons.injEq,DV.c.injEq,DV.a.injEq,D.raw.injEq,D.fs.injEq,Value.bool.injEq,Value.int.injEq]
  intro l0 h1 h2 h3 R hR
  repeat' first | assumption | exact DShs.tail (Aa (by assumption) (by assumption)) | exact shp32 (by assumption) | exact shp64 (by assumption) | exact shp2 (by assumption) | exact shpF (by assumption) | with_reducible intro _ | with_reducible apply And.intro
  all_goals (try (have h0:Bk l0=0:=by (have e:=‹_=Bk l0›;rw [←e];exact Decidable.not_not.1 (by assumption))))
  all_goals (try (have ho:=Axe rfl h0 h2 h1))
  all_goals (try subst_vars)
  all_goals (try simp only [List.nil_append] at *)
  all_goals (try (have z1:=insI.len (by assumption)))
  all_goals (try (have z2:=insJ.len (by assumption)))
  all_goals (try (have z3:=delI.b (by assumption)))
  all_goals (try simp only [List.length_set,List.length_append,List.length_cons,List.length_nil,List.length_take,List.length_replicate] at *)
  all_goals (try simp (disch:=omega) only [Gj,wu64,Int.sub_zero,Int.zero_add] at *)
  all_goals first
    | assumption
    | omega
    | (exfalso;omega)
    | trivial
    | exact shp2 h2
    | exact okD.shp (insI.ok (by assumption) ho)
    | exact okD.shp (delI.ok (by assumption) (insI.ok (by assumption) ho))
    | exact shp2 (insJ.ls (by assumption) h2)
    | exact shp2 (insI.ls (by assumption) h2)
    | (have z:=Amm (by assumption) (insI.ok (by assumption) ho);omega)
    | (have z:=Amm (by assumption) (delI.ok (by assumption) (insI.ok (by assumption) ho));omega)
    | exact insI.zero _
    | exact insI.into (by assumption)
    | exact insJ.step1 (by assumption) ‹cmpI _ _<0› (by omega) (by omega) (by assumption) (by assumption) (by assumption) (by assumption)
    | exact insJ.step2 (by assumption) ‹¬cmpI _ _≠0› ‹cmpI _ _<0› (by omega) (by omega) (by assumption) (by assumption) (by assumption) (by assumption)
    | exact insJ.out' (by assumption) (by omega) (by assumption) (by assumption) (by omega)
    | exact insJ.out0 (by assumption) (by omega)
    | exact Pq _
    | exact thA.zero (lt8 rfl rfl rfl rfl rfl rfl rfl rfl)
    | exact thA.mv (by assumption) (by exact lt8 rfl rfl rfl rfl rfl rfl rfl rfl)
    | exact Ap0 (by assumption) (by omega) (by assumption) (by assumption)
    | exact delI.zero (by omega) (by omega) (fun k hk=>‹upto (fstD _) _› k hk) (Asx (by assumption) (by assumption)) (by omega)
    | exact delI.keep (by assumption) (by omega) (by assumption) (Aec (by assumption) (delI.at' (by assumption) (by assumption))) (by omega) (by omega)
    | exact delI.skip (by assumption) (by omega) (Am1 (by assumption) (by assumption) (delI.at' (by assumption) (by assumption))) (by omega)
    | exact thA.was (by assumption) 0 (by decide) rfl
    | exact thA.was (by assumption) 1 (by decide) rfl
    | exact thA.was (by assumption) 2 (by decide) rfl
    | exact thA.was (by assumption) 3 (by decide) rfl
    | exact thA.was (by assumption) 4 (by decide) rfl
    | exact thA.was (by assumption) 5 (by decide) rfl
    | exact thA.was (by assumption) 6 (by decide) rfl
    | exact thA.was (by assumption) 7 (by decide) rfl
    | exact thA.set (by assumption) 0 (by first | assumption | exact delI.at' (by assumption) (by assumption)) (by omega) (by omega) (lt8 (by first | exact fun _=>rfl | exact fun h=>absurd rfl h) (by first | exact fun _=>rfl | exact fun h=>absurd rfl h) (by first | exact fun _=>rfl | exact fun h=>absurd rfl h) (by first | exact fun _=>rfl | exact fun h=>absurd rfl h) (by first | exact fun _=>rfl | exact fun h=>absurd rfl h) (by first | exact fun _=>rfl | exact fun h=>absurd rfl h) (by first | exact fun _=>rfl | exact fun h=>absurd rfl h) (by first | exact fun _=>rfl | exact fun h=>absurd rfl h)) rfl
    | exact thA.set (by assumption) 1 (by first | assumption | exact delI.at' (by assumption) (by assumption)) (by omega) (by omega) (lt8 (by first | exact fun _=>rfl | exact fun h=>absurd rfl h) (by first | exact fun _=>rfl | exact fun h=>absurd rfl h) (by first | exact fun _=>rfl | exact fun h=>absurd rfl h) (by first | exact fun _=>rfl | exact fun h=>absurd rfl h) (by first | exact fun _=>rfl | exact fun h=>absurd rfl h) (by first | exact fun _=>rfl | exact fun h=>absurd rfl h) (by first | exact fun _=>rfl | exact fun h=>absurd rfl h) (by first | exact fun _=>rfl | exact fun h=>absurd rfl h)) rfl
    | exact thA.set (by assumption) 2 (by first | assumption | exact delI.at' (by assumption) (by assumption)) (by omega) (by omega) (lt8 (by first | exact fun _=>rfl | exact fun h=>absurd rfl h) (by first | exact fun _=>rfl | exact fun h=>absurd rfl h) (by first | exact fun _=>rfl | exact fun h=>absurd rfl h) (by first | exact fun _=>rfl | exact fun h=>absurd rfl h) (by first | exact fun _=>rfl | exact fun h=>absurd rfl h) (by first | exact fun _=>rfl | exact fun h=>absurd rfl h) (by first | exact fun _=>rfl | exact fun h=>absurd rfl h) (by first | exact fun _=>rfl | exact fun h=>absurd rfl h)) rfl
    | exact thA.set (by assumption) 3 (by first | assumption | exact delI.at' (by assumption) (by assumption)) (by omega) (by omega) (lt8 (by first | exact fun _=>rfl | exact fun h=>absurd rfl h) (by first | exact fun _=>rfl | exact fun h=>absurd rfl h) (by first | exact fun _=>rfl | exact fun h=>absurd rfl h) (by first | exact fun _=>rfl | exact fun h=>absurd rfl h) (by first | exact fun _=>rfl | exact fun h=>absurd rfl h) (by first | exact fun _=>rfl | exact fun h=>absurd rfl h) (by first | exact fun _=>rfl | exact fun h=>absurd rfl h) (by first | exact fun _=>rfl | exact fun h=>absurd rfl h)) rfl
    | exact thA.set (by assumption) 4 (by first | assumption | exact delI.at' (by assumption) (by assumption)) (by omega) (by omega) (lt8 (by first | exact fun _=>rfl | exact fun h=>absurd rfl h) (by first | exact fun _=>rfl | exact fun h=>absurd rfl h) (by first | exact fun _=>rfl | exact fun h=>absurd rfl h) (by first | exact fun _=>rfl | exact fun h=>absurd rfl h) (by first | exact fun _=>rfl | exact fun h=>absurd rfl h) (by first | exact fun _=>rfl | exact fun h=>absurd rfl h) (by first | exact fun _=>rfl | exact fun h=>absurd rfl h) (by first | exact fun _=>rfl | exact fun h=>absurd rfl h)) rfl
    | exact thA.set (by assumption) 5 (by first | assumption | exact delI.at' (by assumption) (by assumption)) (by omega) (by omega) (lt8 (by first | exact fun _=>rfl | exact fun h=>absurd rfl h) (by first | exact fun _=>rfl | exact fun h=>absurd rfl h) (by first | exact fun _=>rfl | exact fun h=>absurd rfl h) (by first | exact fun _=>rfl | exact fun h=>absurd rfl h) (by first | exact fun _=>rfl | exact fun h=>absurd rfl h) (by first | exact fun _=>rfl | exact fun h=>absurd rfl h) (by first | exact fun _=>rfl | exact fun h=>absurd rfl h) (by first | exact fun _=>rfl | exact fun h=>absurd rfl h)) rfl
    | exact thA.set (by assumption) 6 (by first | assumption | exact delI.at' (by assumption) (by assumption)) (by omega) (by omega) (lt8 (by first | exact fun _=>rfl | exact fun h=>absurd rfl h) (by first | exact fun _=>rfl | exact fun h=>absurd rfl h) (by first | exact fun _=>rfl | exact fun h=>absurd rfl h) (by first | exact fun _=>rfl | exact fun h=>absurd rfl h) (by first | exact fun _=>rfl | exact fun h=>absurd rfl h) (by first | exact fun _=>rfl | exact fun h=>absurd rfl h) (by first | exact fun _=>rfl | exact fun h=>absurd rfl h) (by first | exact fun _=>rfl | exact fun h=>absurd rfl h)) rfl
    | exact thA.set (by assumption) 7 (by first | assumption | exact delI.at' (by assumption) (by assumption)) (by omega) (by omega) (lt8 (by first | exact fun _=>rfl | exact fun h=>absurd rfl h) (by first | exact fun _=>rfl | exact fun h=>absurd rfl h) (by first | exact fun _=>rfl | exact fun h=>absurd rfl h) (by first | exact fun _=>rfl | exact fun h=>absurd rfl h) (by first | exact fun _=>rfl | exact fun h=>absurd rfl h) (by first | exact fun _=>rfl | exact fun h=>absurd rfl h) (by first | exact fun _=>rfl | exact fun h=>absurd rfl h) (by first | exact fun _=>rfl | exact fun h=>absurd rfl h)) rfl
    | exact hR _ (Ayy rfl (by assumption))
    | exact hR _ (Aey h0 (Ao6 (by assumption) h2 (by omega) (by assumption) (by omega)))
    | exact hR _ (Aey h0 (Ajz (by assumption) h2 (by omega) (by assumption) (by omega)))
    | exact hR _ (Aey h0 best_nil.symm)
    | skip
theorem Ac1:Con TP k0 270 Adn:=Ad [(242,Qh),(295,Asg),(331,Ask)] [(270002727019391086249149,0,none),(270003537027572144422408080478,0,some ⟨[0,3,1,2],[8],[],[kn],[⟨0,118,2,false, .row 4⟩],fun ρ ds=>1≤ni ds 0∧insI (ρ.d 3) (li ds 1) (ni ds 0),fun ρ ds=>(ρ.d 3).length-(ni ds 0).toNat,none⟩),(270003537027572144422408080478,2,some ⟨[0,3,1,2,8],[9],[],[kn],[⟨0,118,2,false, .row 4⟩],fun ρ ds=>0≤ni ds 0∧ni ds 0≤ρ.n 9∧insJ (ρ.d 3) (li ds 1) (ρ.n 9) (ni ds 0),fun ρ ds=>(ni ds 0).toNat,none⟩),(270005967066695495361547829794897254819134346244,0,none),(270002701027215129924212,500001,some ⟨[1,2],[4],[],[kb],[],fun ρ ds=>wasA (ρ.d 10) (ρ.n 14) (ρ.n 25) (bi ds 0),fun ρ ds=>0,none⟩),(270002701027215129924212,500002,some ⟨[1,2,4],[],[(11,0),(11,1),(11,2),(11,3),(11,4),(11,5),(11,6),(11,7)],[kb,kb,kb,kb,kb,kb,kb,kb],[],fun ρ ds=>thA (ρ.d 10) (ρ.n 14+1) ds 0,fun ρ ds=>0,none⟩),(270001891021541083,500001,some ⟨[1,2],[4],[],[kb],[],fun ρ ds=>wasA (ρ.d 10) (ρ.n 38) (ρ.n 52) (bi ds 0),fun ρ ds=>0,none⟩),(270001891021541083,500002,some ⟨[1,2,4],[],[(11,0),(11,1),(11,2),(11,3),(11,4),(11,5),(11,6),(11,7)],[kb,kb,kb,kb,kb,kb,kb,kb],[],fun ρ ds=>thA (ρ.d 10) (ρ.n 38+1) ds 0,fun ρ ds=>0,none⟩),(270001891021542065,0,some ⟨[0,1,7],[8],[(11,0),(11,1),(11,2),(11,3),(11,4),(11,5),(11,6),(11,7)],[kn,kb,kb,kb,kb,kb,kb,kb,kb],[],fun ρ ds=>0≤ni ds 0∧upto (fstD (ρ.d 10)) (ni ds 0)∧thA (ρ.d 10) (ni ds 0) ds 1,fun ρ ds=>(ρ.d 10).length-(ni ds 0).toNat,none⟩),(270001081018,0,some ⟨[0,1],[6,5],[(11,0),(11,1),(11,2),(11,3),(11,4),(11,5),(11,6),(11,7)],[kn,kn,kb,kb,kb,kb,kb,kb,kb,kb],[⟨0,118,2,false, .row 4⟩],fun ρ ds=>delI (fstD (ρ.d 10)) (ρ.d 10) (li ds 10) (ni ds 1) (ni ds 0)∧thA (ρ.d 10) (ni ds 0) ds 2,fun ρ ds=>(ρ.d 10).length-(ni ds 0).toNat,none⟩)] [(270002727019391086249149,26,true)] [(242,Rz),(331,As5)] 3000 ⟨Zq,Ar2,Ar6,trivial⟩ ⟨fnq rfl rfl,fnq rfl rfl,trivial⟩ Go.Proofs.Tryz.func270 rfl rfl rfl rfl Afx (by kernel_rfl) Air
end Go.Vc

namespace Go.Vc
open Classical
def Id (aa:List DV):List DV:=[vn (if Aq (ai aa 0) then 0 else 8)]
def t_cacheCheckFA:ConT:=⟨[rkS cacheS],[kn],fun aa=>DShs cacheS (ai aa 0)∧0<(gL (ai aa 0) 2).length,fun aa rs=>rs=Id aa⟩
def Fb:Prop:=∀ x0 x1 l2,Ob (DShs cacheS [dn x0,dn x1,D.fs l2]∧(0:Nat)<l2.length)→∀ (R:List DV→Prop),Ob (∀ (res:List DV),res=[vn (if Aq [dn x0,dn x1,D.fs l2] then (0:Int) else (8:Int))]→R res)→(x0<0→Ob (R [vn 8]))∧(¬x0<0→(x0≥8→Ob (R [vn 8]))∧(¬x0≥8→(x1<1→Ob (R [vn 8]))∧(¬x1<1→(x1>6→Ob (R [vn 8]))∧(¬x1>6→∀ x4:Int,x4=l2.length→(x4>x1→Ob (R [vn 8]))∧(¬x4>x1→∀ x5:Int,x5=l2.length→∀ x6:Int,x6=w64 (0+x5)→Ob ¬x6<0∧Ob ¬x6<0∧∀ x7:Int,x7=w64 (x6-w64 ((↑(0:Nat):Int)-(↑(0:Nat):Int)))→Ob (x7>0)∧Ob (0<x7∧x7≤65536)∧∀ (l8:LL),l8=List.replicate (x7.toNat) [dn 0,dn 0]→Ob ((0:Int)≤(↑(0:Nat):Int)∧(↑(0:Nat):Int)≤(l8.length:Int))∧∀ (l9:LL),l9=List.take (Int.toNat (↑(0:Nat):Int)) l8→Ob (Shp kP l2∧l9.length+l2.length≤1048576)∧∀ (l10:LL),let N1:=(LSh pairS l10∧l10.length≤12);let N0:=(othD x0 l10);l10=l9++l2→∀ x11:Int,x11=l10.length→Ob ((0:Int)≤(0:Int)∧upto N0 (0:Int))∧∀ (g12:NV) (x13:Int),Ob (0≤x13∧upto N0 x13)→(x13<x11→Ob (0≤x13∧x13<l10.length)∧∀ x14:Int,x14=x13→Ob (0≤x14∧x14<l10.length)∧Ob (Shp kP l10)∧∀ x15 x16,Ob (l10[x14.toNat]?=some [dn x15,dn x16])→(x15=x0→(x13 = -1→Ob N1∧∀ l17 x18,Ob ([vl l17,vn x18]=Dp l10)→(x18≠0→Ob (R [vn 8]))∧(¬x18≠0→Ob (LSh pairS l17∧LSh pairS l2)∧∀ b19,Ob ([vb b19]=[vb (decide (l17=l2))])→(b19=false→Ob (R [vn 8]))∧(¬b19=false→Ob (R [vn 0]))))∧(¬x13 = -1→∀ x20:Int,x20=w64 (x13+1)→Ob (delI N0 l10 l10 x13 x20)∧∀ (g21:NV) (x22 x23:Int) (l24:LL),Ob (delI N0 l10 l24 x23 x22)→∀ x25:Int,x25=l24.length→(x22<x25→Ob (0≤x22∧x22<l24.length)∧∀ x26:Int,x26=x22→Ob (0≤x26∧x26<l24.length)∧Ob (Shp kP l24)∧∀ x27 x28,Ob (l24[x26.toNat]?=some [dn x27,dn x28])→(x27=x0→∀ x29:Int,x29=w64 (x22+1)→Ob (delI N0 l10 l24 x23 x29)∧Ob (l10.length-x29.toNat<l10.length-x22.toNat))∧(¬x27=x0→Ob (0≤x23∧x23<l24.length)∧∀ x30:Int,x30=x23→Ob (0≤x30∧x30<l24.length)∧∀ (l31:LL),l31=List.set l24 (x30.toNat) [dn x27,dn x28]→∀ x32:Int,x32=w64 (x23+1)→∀ x33:Int,x33=w64 (x22+1)→Ob (delI N0 l10 l31 x32 x33)∧Ob (l10.length-x33.toNat<l10.length-x22.toNat)))∧(¬x22<x25→Ob (0≤x23∧x23≤l24.length)∧∀ x34:Int,x34=x23→∀ (l35:LL),l35=List.take (x34.toNat) l24++List.replicate (l24.length-x34.toNat) [dn 0,dn 0]→Ob (0≤x23∧x23≤l35.length)∧∀ (l36:LL),l36=List.take (x23.toNat) l35→Ob (LSh pairS l36∧l36.length≤12)∧∀ l37 x38,Ob ([vl l37,vn x38]=Dp l36)→(x38≠0→Ob (R [vn 8]))∧(¬x38≠0→Ob (LSh pairS l37∧LSh pairS l2)∧∀ b39,Ob ([vb b39]=[vb (decide (l37=l2))])→(b39=false→Ob (R [vn 8]))∧(¬b39=false→Ob (R [vn 0]))))))∧(¬x15=x0→∀ x40:Int,x40=w64 (x13+1)→Ob (0≤x40∧upto N0 x40)∧Ob (l10.length-x40.toNat<l10.length-x13.toNat)))∧(¬x13<x11→Ob N1∧∀ l41 x42,Ob ([vl l41,vn x42]=Dp l10)→(x42≠0→Ob (R [vn 8]))∧(¬x42≠0→Ob (LSh pairS l41∧LSh pairS l2)∧∀ b43,Ob ([vb b43]=[vb (decide (l41=l2))])→(b43=false→Ob (R [vn 8]))∧(¬b43=false→Ob (R [vn 0])))))))))
theorem Lm:Fb:=by
  delta Fb
  simp only [Ac,and_imp,forall_exists_index,true_and,and_true,List.cons.injEq,DV.c.injEq,DV.a.injEq,D.raw.injEq,D.fs.injEq,Value.bool.injEq,Value.int.injEq]
  intro x0 x1 l2 h0 hl R hR
  have hn:=(Ak.1 (Ab.1 (Ab.1 (Ab.1 h0).2).2).1).1
  have hs:=(Ak.1 (Ab.1 (Ab.1 (Ab.1 h0).2).2).1).2
  repeat' first | assumption | exact DShs.tail (Aa (by assumption) (by assumption)) | exact shp32 (by assumption) | exact shp64 (by assumption) | exact shp2 (by assumption) | exact shpF (by assumption) | with_reducible intro _ | with_reducible apply And.intro
  all_goals (try subst_vars)
  all_goals (try simp only [Int.toNat_natCast,List.take_zero,List.nil_append] at *)
  all_goals (try (have z3:=delI.b (by assumption)))
  all_goals (try simp only [List.length_set,List.length_append,List.length_cons,List.length_nil,List.length_take,List.length_replicate] at *)
  all_goals (try simp (disch:=omega) only [Gj,Int.sub_zero,Int.zero_add] at *)
  all_goals first
    | assumption
    | omega
    | (exfalso;omega)
    | exact shp2 hs
    | exact shp2 (delI.ls (by assumption) hs)
    | exact ⟨⟨hn,hs⟩,by omega⟩
    | exact Pq _
    | exact (Ag (by omega)).2 ⟨by assumption,Ki (by assumption) (by assumption)⟩
    | exact delI.zero (by omega) (by omega) (fun k hk=>‹upto (othD _ _) _› k hk) (Qu (by assumption) rfl) (by omega)
    | exact delI.keep (by assumption) (by omega) (by assumption) (Ki (delI.at' (by assumption) (by assumption)) (by assumption)) (by omega) (by omega)
    | exact delI.skip (by assumption) (by omega) (Qu (delI.at' (by assumption) (by assumption)) rfl) (by omega)
    | (rw [Cs (by assumption) (by omega)];exact Ab6 hs)
    | exact (Ev (Eu (by assumption) (by omega)).symm (by assumption) hn hs).1
    | exact (Ev (Cs (by assumption) (by omega)) (by assumption) hn hs).1
    | exact (Ev (Eu (by assumption) (by omega)).symm (by assumption) hn hs).2
    | exact (Ev (Cs (by assumption) (by omega)) (by assumption) hn hs).2
    | exact hR _ (Ou (Ata (by omega)))
    | exact hR _ (Ou (Ss (Eu (by assumption) (by omega)).symm (by assumption) (by assumption)))
    | exact hR _ (Ou (Ss (Cs (by assumption) (by omega)) (by assumption) (by assumption)))
    | exact hR _ (Ou (Sr (Eu (by assumption) (by omega)).symm (by assumption) (Decidable.not_not.1 (by assumption)) (by assumption)))
    | exact hR _ (Ou (Sr (Cs (by assumption) (by omega)) (by assumption) (Decidable.not_not.1 (by assumption)) (by assumption)))
    | exact hR _ (Ac2 (Aoy (by omega) (Eu (by assumption) (by omega)).symm (by assumption) (Decidable.not_not.1 (by assumption)) (by assumption)))
    | exact hR _ (Ac2 (Aoy (by omega) (Cs (by assumption) (by omega)) (by assumption) (Decidable.not_not.1 (by assumption)) (by assumption)))
    | skip
theorem Ot:Con TP k0 142 t_cacheCheckFA:=Ad [(188,Hj),(270,Adn)] [(142001078034228104,0,none),(142001078034228104,2,none),(142001504037461208980329,0,some ⟨[0,1,7],[8],[],[kn],[],fun ρ ds=>0≤ni ds 0∧upto (othD (ρ.n 0) (ρ.d 16)) (ni ds 0),fun ρ ds=>(ρ.d 16).length-(ni ds 0).toNat,none⟩),(142001078034227106,0,some ⟨[0,1],[6,5],[],[kn,kn],[⟨0,118,2,false, .row 17⟩],fun ρ ds=>delI (othD (ρ.n 0) (ρ.d 16)) (ρ.d 16) (li ds 2) (ni ds 1) (ni ds 0),fun ρ ds=>(ρ.d 16).length-(ni ds 0).toNat,none⟩)] [(142001078034228104,21,false),(142001504037462206984337,7,false),(142001504037462206984337,17,true)] [(188,Hr),(270,Aei)] 3000 ⟨Gt,Ac1,trivial⟩ ⟨fnq rfl rfl,fnq rfl rfl,trivial⟩ Go.Proofs.Tryz.func142 rfl rfl rfl rfl Fb (by kernel_rfl) Lm
end Go.Vc

namespace Go.Vc
open Classical
def Ui (aa:List DV):List DV:=[vn (if Aq (ai aa 0) then 0 else 8)]
def Ug:ConT:=⟨[rkS cacheS],[kn],fun aa=>DShs cacheS (ai aa 0)∧(gL (ai aa 0) 2).length=0,fun aa rs=>rs=Ui aa⟩
def Fa:Prop:=∀ x0 x1 l2,Ob (DShs cacheS [dn x0,dn x1,D.fs l2]∧l2.length=0)→∀ (R:List DV→Prop),Ob (∀ (res:List DV),res=[vn (if Aq [dn x0,dn x1,D.fs l2] then (0:Int) else (8:Int))]→R res)→(x0<0→Ob (R [vn 8]))∧(¬x0<0→(x0≥8→Ob (R [vn 8]))∧(¬x0≥8→(x1<1→Ob (R [vn 8]))∧(¬x1<1→(x1>6→Ob (R [vn 8]))∧(¬x1>6→∀ x4:Int,x4=l2.length→(x4>x1→Ob (R [vn 8]))∧(¬x4>x1→∀ x5:Int,x5=l2.length→∀ x6:Int,x6=w64 (0+x5)→Ob ¬x6<0∧Ob ¬x6<0∧∀ x7:Int,x7=w64 (x6-w64 ((↑(0:Nat):Int)-(↑(0:Nat):Int)))→Ob ¬x7>0∧Ob (Shp kP l2∧List.length ([]:LL)+l2.length≤1048576)∧∀ (l8:LL),l8=[]++l2→∀ x9:Int,x9=l8.length→Ob ¬0<x9∧Ob (LSh pairS l8∧l8.length≤12)∧∀ l10 x11,Ob ([vl l10,vn x11]=Dp l8)→(x11≠0→Ob (R [vn 8]))∧(¬x11≠0→Ob (LSh pairS l10∧LSh pairS l2)∧∀ b12,Ob ([vb b12]=[vb (decide (l10=l2))])→(b12=false→Ob (R [vn 8]))∧(¬b12=false→Ob (R [vn 0]))))))))
theorem Ll:Fa:=by
  delta Fa
  simp only [Ac,and_imp,forall_exists_index,true_and,and_true,List.cons.injEq,DV.c.injEq,DV.a.injEq,D.raw.injEq,D.fs.injEq,Value.bool.injEq,Value.int.injEq]
  intro x0 x1 l2 h0 hl R hR
  obtain rfl:=List.length_eq_zero_iff.1 hl
  have hn:([]:LL).length≤9223372036854775807:=by simp
  have hs:LS pairS []:=Ej
  repeat' first | assumption | exact DShs.tail (Aa (by assumption) (by assumption)) | exact shp32 (by assumption) | exact shp64 (by assumption) | exact shp2 (by assumption) | exact shpF (by assumption) | with_reducible intro _ | with_reducible apply And.intro
  all_goals (try (have hl:=nil_of (by assumption);subst hl))
  all_goals (try subst_vars)
  all_goals (try simp only [Int.toNat_natCast,List.take_zero,List.nil_append] at *)
  all_goals (try (have z3:=delI.b (by assumption)))
  all_goals (try simp only [List.length_set,List.length_append,List.length_cons,List.length_nil,List.length_take,List.length_replicate] at *)
  all_goals (try simp (disch:=omega) only [Gj,Int.sub_zero,Int.zero_add] at *)
  all_goals first
    | assumption
    | omega
    | (exfalso;omega)
    | exact shp2 hs
    | exact shp2 (delI.ls (by assumption) hs)
    | exact ⟨⟨hn,hs⟩,by omega⟩
    | exact Pq _
    | exact (Ag (by omega)).2 ⟨by assumption,Ki (by assumption) (by assumption)⟩
    | exact delI.zero (by omega) (by omega) (fun k hk=>‹upto (othD _ _) _› k hk) (Qu (by assumption) rfl) (by omega)
    | exact delI.keep (by assumption) (by omega) (by assumption) (Ki (delI.at' (by assumption) (by assumption)) (by assumption)) (by omega) (by omega)
    | exact delI.skip (by assumption) (by omega) (Qu (delI.at' (by assumption) (by assumption)) rfl) (by omega)
    | (rw [Cs (by assumption) (by omega)];exact Ab6 hs)
    | exact (Ev (Eu (by assumption) (by omega)).symm (by assumption) hn hs).1
    | exact (Ev (Cs (by assumption) (by omega)) (by assumption) hn hs).1
    | exact (Ev (Eu (by assumption) (by omega)).symm (by assumption) hn hs).2
    | exact (Ev (Cs (by assumption) (by omega)) (by assumption) hn hs).2
    | exact hR _ (Ou (Ata (by omega)))
    | exact hR _ (Ou (Ss (Eu (by assumption) (by omega)).symm (by assumption) (by assumption)))
    | exact hR _ (Ou (Ss (Cs (by assumption) (by omega)) (by assumption) (by assumption)))
    | exact hR _ (Ou (Sr (Eu (by assumption) (by omega)).symm (by assumption) (Decidable.not_not.1 (by assumption)) (by assumption)))
    | exact hR _ (Ou (Sr (Cs (by assumption) (by omega)) (by assumption) (Decidable.not_not.1 (by assumption)) (by assumption)))
    | exact hR _ (Ac2 (Aoy (by omega) (Eu (by assumption) (by omega)).symm (by assumption) (Decidable.not_not.1 (by assumption)) (by assumption)))
    | exact hR _ (Ac2 (Aoy (by omega) (Cs (by assumption) (by omega)) (by assumption) (Decidable.not_not.1 (by assumption)) (by assumption)))
    | (exfalso;simp at *;done)
    | exact shp_nil
    | (simp;done)
    | (simp;omega)
    | exact (Ev (flt_nil (own:=0)).symm (by assumption) hn hs).1
    | exact (Ev (flt_nil (own:=0)).symm (by assumption) hn hs).2
    | exact hR _ (Ou (Ss flt_nil.symm (by assumption) (by assumption)))
    | exact hR _ (Ou (Sr flt_nil.symm (by assumption) (Decidable.not_not.1 (by assumption)) (by assumption)))
    | exact hR _ (Ac2 (Aoy (by simp;omega) flt_nil.symm (by assumption) (Decidable.not_not.1 (by assumption)) (by assumption)))
    | skip
theorem Oq:Con TP k0 142 Ug:=Ad [(188,Hj),(270,Adn)] [(142001078034228104,0,none),(142001078034228104,2,none),(142001504037461208980329,0,none)] [(142001078034228104,21,false),(142001504037462206984337,7,false),(142001504037462206984337,17,false),(142001504037461208980329,10,false)] [(188,Hr),(270,Aei)] 3000 ⟨Gt,Ac1,trivial⟩ ⟨fnq rfl rfl,fnq rfl rfl,trivial⟩ Go.Proofs.Tryz.func142 rfl rfl rfl rfl Fa (by kernel_rfl) Ll
end Go.Vc

namespace Go.Vc
open Classical
theorem Con.or {P:Program} {K:Nat→Option (List Value)} {f:FuncId} {a r:List RK} {p p1 p2:List DV→Prop} {q:List DV→List DV→Prop} (h1:Con P K f ⟨a,r,p1,q⟩) (h2:Con P K f ⟨a,r,p2,q⟩) (h:∀ aa,p aa→p1 aa∨p2 aa):Con P K f ⟨a,r,p,q⟩ :=
  ⟨h1.1,fun F hF n G w aa us h3 h4 h5 hp=>(h aa hp).elim (fun hq=>h1.2 F hF n G w aa us h3 h4 h5 hq) fun hq=>h2.2 F hF n G w aa us h3 h4 h5 hq⟩
def Kv:List DV→List DV:=Id
def Fq:ConT:=⟨t_cacheCheckFA.args,t_cacheCheckFA.res,fun aa=>DShs cacheS (ai aa 0),t_cacheCheckFA.post⟩
theorem Gu:Con Go.Proofs.Tryz.prog k0 142 Fq :=
  Con.or Ot Oq fun aa h=>(Nat.eq_zero_or_pos (gL (ai aa 0) 2).length).elim (fun h0=>.inr ⟨h,h0⟩) fun h0=>.inl ⟨h,h0⟩
end Go.Vc

namespace Go.Vc
open Classical
def Ru (aa:List DV):List DV:=[vn (if Vo (ai aa 0) then 0 else 8)]
def Qc:ConT:=⟨[rkS massS],[kn],fun aa=>DShs massS (ai aa 0),fun aa rs=>rs=Ru aa⟩
def Jh:Prop:=∀ b0 l1 x2 b3 l4 x5 b6 l7 x8 b9 l10 x11,let N0:=[db b0,D.fs l1,dn x2,db b3,D.fs l4,dn x5,db b6,D.fs l7,dn x8,db b9,D.fs l10,dn x11];Ob (DShs massS N0)→∀ (R:List DV→Prop),Ob (∀ (res:List DV),res=[vn (if Vo N0 then (0:Int) else (8:Int))]→R res)→Ob (DShs massS N0)∧∀ x13,Ob ([vn x13]=[vn (if Bl N0 then (0:Int) else (8:Int))])→(x13≠0→Ob (R [vn 8]))∧(¬x13≠0→(b3=true→Ob (R [vn 8]))∧(b3=false→∀ x14:Int,x14=l4.length→(x14=0→∀ x15:Int,x15=l1.length→(x15=0→Ob (R [vn 0]))∧(¬x15=0→Ob (R [vn 8])))∧(¬x14=0→Ob (R [vn 0]))))
theorem Tx:Jh:=by
  delta Jh
  simp only [Ac,and_imp,List.cons_append,List.nil_append,Ab,Af,Ai,Ah,Ak,rng64,rng32,true_and,and_true,List.cons.injEq,DV.c.injEq,DV.a.injEq,D.raw.injEq,D.fs.injEq,Value.bool.injEq,Value.int.injEq]
  repeat' first | assumption | exact DShs.tail (Aa (by assumption) (by assumption)) | exact shp32 (by assumption) | exact shp64 (by assumption) | exact shp2 (by assumption) | exact shpF (by assumption) | with_reducible intro _ | with_reducible apply And.intro
  all_goals first
    | assumption
    | omega
    | (apply ‹∀ res:List DV,_=_→_›;simp [Vo,gB,gL,-List.length_eq_zero_iff] <;> grind)
theorem Zl:Con TP k0 265 Qc:=Ad [(171,Fp)] [(265001091006,0,none)] [] [(171,Fv)] 3000 ⟨Fy,trivial⟩ ⟨fnq rfl rfl,trivial⟩ Go.Proofs.Tryz.func265 rfl rfl rfl rfl Jh (by kernel_rfl) Tx
end Go.Vc

namespace Go.Vc
open Classical
def Ry (aa:List DV):List DV:=[vn (if Vp (ai aa 0) then 0 else 8)]
def Qg:ConT:=⟨[rkS edgeS],[kn],fun aa=>DShs edgeS (ai aa 0),fun aa rs=>rs=Ry aa⟩
def Jn:Prop:=∀ (b0:Bool) (x1 x2:Int),let N1:=(true=false∧x1=0∧x2=0);let N0:=(false=false∧x1=0∧x2=0);Ob (DShs edgeS [db b0,dn x1,dn x2])→∀ (R:List DV→Prop),Ob (∀ (res:List DV),res=[vn (if Vp [db b0,dn x1,dn x2] then (0:Int) else (8:Int))]→R res)→(b0=true→(x1≥-2147483647→(x1≤2147483647→(x2≥-2147483647→(x2≤2147483647→(x1>x2→Ob (R [vn 8]))∧(¬x1>x2→(true=false→(¬N1→Ob (R [vn 8]))∧(¬¬N1→Ob (R [vn 0])))∧(¬true=false→Ob (R [vn 0]))))∧(¬x2≤2147483647→Ob (R [vn 8])))∧(¬x2≥-2147483647→Ob (R [vn 8])))∧(¬x1≤2147483647→Ob (R [vn 8])))∧(¬x1≥-2147483647→Ob (R [vn 8])))∧(b0=false→(false=false→(¬N0→Ob (R [vn 8]))∧(¬¬N0→Ob (R [vn 0])))∧(¬false=false→Ob (R [vn 0])))
theorem Ud:Jn:=by
  delta Jn
  simp only [Ac,and_imp,List.cons_append,List.nil_append,Ab,Af,Ai,Ah,Ak,rng64,rng32,true_and,and_true,List.cons.injEq,DV.c.injEq,DV.a.injEq,D.raw.injEq,D.fs.injEq,Value.bool.injEq,Value.int.injEq]
  repeat' first | assumption | exact DShs.tail (Aa (by assumption) (by assumption)) | exact shp32 (by assumption) | exact shp64 (by assumption) | exact shp2 (by assumption) | exact shpF (by assumption) | with_reducible intro _ | with_reducible apply And.intro
  all_goals first
    | assumption
    | omega
    | (apply ‹∀ res:List DV,_=_→_›;simp_all [Vp,inV,gB,gI];try omega)
theorem Zp:Con TP k0 266 Qg:=Ad [] [] [] [] 3000 trivial trivial Go.Proofs.Tryz.func266 rfl rfl rfl rfl Jn (by kernel_rfl) Ud
end Go.Vc

namespace Go.Vc
open Classical
def Nw (aa:List DV):List DV:=[vn (Cc (li aa 0))]
def Ng:ConT:=⟨[kl],[kn],fun aa=>LSh [s32] (li aa 0),fun aa rs=>rs=Nw aa⟩
def He:Prop:=∀ (l0:LL),Ob (LSh [s32] l0)→∀ (R:List DV→Prop),Ob (∀ (res:List DV),res=[vn (Cc l0)]→R res)→∀ x2:Int,x2=l0.length→(x2>8→Ob (R [vn 4]))∧(¬x2>8→Ob ((1:Int)≤(1:Int)∧upto (Cq l0) (1:Int))∧∀ (g3:NV) (x4:Int),Ob (1≤x4∧upto (Cq l0) x4)→∀ x5:Int,x5=l0.length→(x4<x5→Ob (0≤x4∧x4<l0.length)∧Ob (Shp kU l0)∧∀ x6,Ob (l0[x4.toNat]?=some [d32 x6])→∀ x7:Int,x7=w64 (x4-1)→Ob (0≤x7∧x7<l0.length)∧Ob (Shp kU l0)∧∀ x8,Ob (l0[x7.toNat]?=some [d32 x8])→(x6≤x8→Ob (R [vn 8]))∧(¬x6≤x8→∀ x9:Int,x9=w64 (x4+1)→Ob (1≤x9∧upto (Cq l0) x9)∧Ob (l0.length-x9.toNat<l0.length-x4.toNat)))∧(¬x4<x5→Ob (R [vn 0])))
theorem Pm:He:=by
  delta He
  simp only [Ac,and_imp,List.cons_append,List.nil_append,Ab,Af,Ai,Ah,Ak,rng64,rng32,true_and,and_true,List.cons.injEq,DV.c.injEq,DV.a.injEq,D.raw.injEq,D.fs.injEq,Value.bool.injEq,Value.int.injEq]
  repeat' first | assumption | exact DShs.tail (Aa (by assumption) (by assumption)) | exact shp32 (by assumption) | exact shp64 (by assumption) | exact shp2 (by assumption) | exact shpF (by assumption) | with_reducible intro _ | with_reducible apply And.intro
  all_goals (try (have e:=En ‹_=w64 (_-1)› (by omega) (by omega);subst e))
  all_goals (try (have e:=Ae ‹_=w64 (_+1)› (by omega) (by omega);subst e))
  all_goals first
    | assumption
    | omega
    | (exact fun i hi h0=>by omega)
    | (apply ‹∀ res:List DV,_=_→_›;simp only [Cc];rw [if_pos (by omega)])
    | (apply ‹∀ res:List DV,_=_→_›;simp only [Cc];rw [if_neg (by omega),if_neg (Bc (Sv (by assumption) (by assumption) (by omega) (by omega)) (by omega) (by omega))])
    | (apply ‹∀ res:List DV,_=_→_›;simp only [Cc];rw [if_neg (by omega),if_pos (Ba (by assumption) (by omega))])
    | (rw [Ag (by omega)];exact ⟨by assumption,Of (by assumption) (by assumption) (by omega)⟩)
theorem Ur:Con TP k0 267 Ng:=Ad [] [(267000,0,some ⟨[0],[3],[],[kn],[],fun ρ ds=>1≤ni ds 0∧upto (Cq (ρ.d 0)) (ni ds 0),fun ρ ds=>(ρ.d 0).length-(ni ds 0).toNat,none⟩)] [] [] 3000 trivial trivial Go.Proofs.Tryz.func267 rfl rfl rfl rfl He (by kernel_rfl) Pm
end Go.Vc

namespace Go.Vc
open Classical
def Iq (aa:List DV):List DV:=[vn (if Bp (ai aa 0) then 0 else 8)]
def Ik:ConT:=⟨[rkS partS],[kn],fun aa=>DShs partS (ai aa 0),fun aa rs=>rs=Iq aa⟩
def Jj:Prop:=∀ b0 l1 x2 b3 l4 x5 b6 l7 x8 b9 l10 x11 b12 x13 x14 l15,let N2:=[db b12,dn x13,dn x14];let N1:=[db b0,D.fs l1,dn x2,db b3,D.fs l4,dn x5,db b6,D.fs l7,dn x8,db b9,D.fs l10,dn x11];let N0:=[db b0,D.fs l1,dn x2,db b3,D.fs l4,dn x5,db b6,D.fs l7,dn x8,db b9,D.fs l10,dn x11,db b12,dn x13,dn x14,D.fs l15];Ob (DShs partS N0)→∀ (R:List DV→Prop),Ob (∀ (res:List DV),res=[vn (if Bp N0 then (0:Int) else (8:Int))]→R res)→Ob (DShs massS N1)∧∀ x17,Ob ([vn x17]=[vn (if Vo N1 then (0:Int) else (8:Int))])→(x17≠0→Ob (R [vn 8]))∧(¬x17≠0→Ob (DShs edgeS N2)∧∀ x18,Ob ([vn x18]=[vn (if Vp N2 then (0:Int) else (8:Int))])→(x18≠0→Ob (R [vn 8]))∧(¬x18≠0→Ob (LSh [s32] l15)∧∀ x19,Ob ([vn x19]=[vn (Cc l15)])→(x19≠0→Ob (R [vn 8]))∧(¬x19≠0→Ob (R [vn 0]))))
theorem Tz:Jj:=by
  delta Jj
  simp only [Ac,and_imp,List.cons_append,List.nil_append,Ab,Af,Ai,Ah,Ak,rng64,rng32,true_and,and_true,List.cons.injEq,DV.c.injEq,DV.a.injEq,D.raw.injEq,D.fs.injEq,Value.bool.injEq,Value.int.injEq]
  repeat' first | assumption | exact DShs.tail (Aa (by assumption) (by assumption)) | exact shp32 (by assumption) | exact shp64 (by assumption) | exact shp2 (by assumption) | exact shpF (by assumption) | with_reducible intro _ | with_reducible apply And.intro
  all_goals first
    | assumption
    | omega
    | (apply ‹∀ res:List DV,_=_→_›;simp [Bp,gL,sub3,-List.length_eq_zero_iff] <;> grind)
theorem La:Con TP k0 210 Ik:=Ad [(265,Qc),(266,Qg),(267,Ng)] [] [] [(265,Ru),(266,Ry),(267,Nw)] 3000 ⟨Zl,Zp,Ur,trivial⟩ ⟨fnq rfl rfl,fnq rfl rfl,fnq rfl rfl,trivial⟩ Go.Proofs.Tryz.func210 rfl rfl rfl rfl Jj (by kernel_rfl) Tz
end Go.Vc

namespace Go.Vc
open Classical
def Rv (aa:List DV):List DV:=[vn (Be (li aa 0))]
def Qd:ConT:=⟨[kl],[kn],fun aa=>LSh frozS (li aa 0),fun aa rs=>rs=Rv aa⟩
def Ji:Prop:=∀ (l0:LL),Ob (LSh frozS l0)→∀ (R:List DV→Prop),Ob (∀ (res:List DV),res=[vn (Be l0)]→R res)→∀ x2:Int,x2=l0.length→(x2>1024→Ob (R [vn 4]))∧(¬x2>1024→∀ x3:Int,x3=l0.length→Ob ((0:Int)≤(0:Int)∧(-1:Int)=prv l0 (Int.toNat (0:Int))∧upto (Bq l0) (0:Int))∧∀ (g4:NV) (x5 x6:Int),Ob (0≤x5∧x6=prv l0 (x5.toNat)∧upto (Bq l0) x5)→(x5<x3→Ob (0≤x5∧x5<l0.length)∧Ob (Shp kF l0)∧∀ x7 b8 l9 x10 b11 l12 x13 b14 l15 x16 b17 l18 x19 b20 x21 x22 l23,let N0:=[db b8,D.fs l9,dn x10,db b11,D.fs l12,dn x13,db b14,D.fs l15,dn x16,db b17,D.fs l18,dn x19,db b20,dn x21,dn x22,D.fs l23];Ob (l0[x5.toNat]?=some [dn x7,db b8,D.fs l9,dn x10,db b11,D.fs l12,dn x13,db b14,D.fs l15,dn x16,db b17,D.fs l18,dn x19,db b20,dn x21,dn x22,D.fs l23])→(x7≤x6→Ob (R [vn 8]))∧(¬x7≤x6→(x7>65535→Ob (R [vn 8]))∧(¬x7>65535→Ob (DShs partS N0)∧∀ x24,Ob ([vn x24]=[vn (if Bp N0 then (0:Int) else (8:Int))])→(x24≠0→Ob (R [vn 8]))∧(¬x24≠0→∀ x25:Int,x25=w64 (x5+1)→Ob (0≤x25∧x7=prv l0 (x25.toNat)∧upto (Bq l0) x25)∧Ob (l0.length-x25.toNat<l0.length-x5.toNat)))))∧(¬x5<x3→Ob (R [vn 0])))
theorem Ty:Ji:=by
  delta Ji
  simp only [Ac,and_imp,true_and,and_true,List.cons.injEq,DV.c.injEq,DV.a.injEq,D.raw.injEq,D.fs.injEq,Value.bool.injEq,Value.int.injEq]
  repeat' first | assumption | exact DShs.tail (Aa (by assumption) (by assumption)) | exact shp32 (by assumption) | exact shp64 (by assumption) | exact shp2 (by assumption) | exact shpF (by assumption) | with_reducible intro _ | with_reducible apply And.intro
  all_goals (try (have e:=Ae ‹_=w64 (_+1)› (by omega) (by omega);subst e))
  all_goals first
    | assumption
    | omega
    | (exact fun i hi=>by omega)
    | (apply ‹∀ res:List DV,_=_→_›;simp only [Be];rw [if_pos (by omega)])
    | (apply ‹∀ res:List DV,_=_→_›;simp only [Be];rw [if_neg (by omega),if_neg (Bc (Aka (by assumption) (by assumption) (by omega) (by assumption)) (by omega) (by omega))])
    | (apply ‹∀ res:List DV,_=_→_›;simp only [Be];rw [if_neg (by omega),if_neg (Bc (It (by assumption) (by assumption) (by omega) (by omega)) (by omega) (by omega))])
    | (apply ‹∀ res:List DV,_=_→_›;simp only [Be];rw [if_neg (by omega),if_pos (Ba (by assumption) (by omega))])
    | (rw [Ag (by omega)];exact ⟨by assumption,Aez (by assumption) (by assumption) (by assumption) (by omega) (by omega) (by assumption)⟩)
    | (exact Ye (by assumption) (by omega))
    | (rfl)
theorem Zm:Con TP k0 218 Qd:=Ad [(210,Ik)] [(218000,0,some ⟨[9,10],[11,3],[],[kn,kn],[],fun ρ ds=>0≤ni ds 0∧ni ds 1=prv (ρ.d 0) (ni ds 0).toNat∧upto (Bq (ρ.d 0)) (ni ds 0),fun ρ ds=>(ρ.d 0).length-(ni ds 0).toNat,none⟩)] [] [(210,Iq)] 3000 ⟨La,trivial⟩ ⟨fnq rfl rfl,trivial⟩ Go.Proofs.Tryz.func218 rfl rfl rfl rfl Ji (by kernel_rfl) Ty
end Go.Vc

namespace Go.Vc
open Classical
def Rj (aa:List DV):List DV:=[vn (Bn (li aa 0))]
def Ps:ConT:=⟨[kl],[kn],fun aa=>LSh [s64] (li aa 0),fun aa rs=>rs=Rj aa⟩
def Iv:Prop:=∀ (l0:LL),Ob (LSh [s64] l0)→∀ (R:List DV→Prop),Ob (∀ (res:List DV),res=[vn (Bn l0)]→R res)→∀ x2:Int,x2=l0.length→(x2>4096→Ob (R [vn 4]))∧(¬x2>4096→∀ x3:Int,x3=l0.length→Ob ((0:Int)≤(0:Int)∧(-1:Int)=prv l0 (Int.toNat (0:Int))∧upto (Bx l0) (0:Int))∧∀ (g4:NV) (x5 x6:Int),Ob (0≤x5∧x6=prv l0 (x5.toNat)∧upto (Bx l0) x5)→(x5<x3→Ob (0≤x5∧x5<l0.length)∧Ob (Shp kI l0)∧∀ x7,Ob (l0[x5.toNat]?=some [dn x7])→(x7≤x6→Ob (R [vn 8]))∧(¬x7≤x6→(x7>1048575→Ob (R [vn 8]))∧(¬x7>1048575→∀ x8:Int,x8=w64 (x5+1)→Ob (0≤x8∧x7=prv l0 (x8.toNat)∧upto (Bx l0) x8)∧Ob (l0.length-x8.toNat<l0.length-x5.toNat))))∧(¬x5<x3→Ob (R [vn 0])))
theorem Tk:Iv:=by
  delta Iv
  simp only [Ac,and_imp,List.cons_append,List.nil_append,Ab,Af,Ai,Ah,Ak,rng64,rng32,true_and,and_true,List.cons.injEq,DV.c.injEq,DV.a.injEq,D.raw.injEq,D.fs.injEq,Value.bool.injEq,Value.int.injEq]
  repeat' first | assumption | exact DShs.tail (Aa (by assumption) (by assumption)) | exact shp32 (by assumption) | exact shp64 (by assumption) | exact shp2 (by assumption) | exact shpF (by assumption) | with_reducible intro _ | with_reducible apply And.intro
  all_goals (try (have e:=Ae ‹_=w64 (_+1)› (by omega) (by omega);subst e))
  all_goals first
    | assumption
    | omega
    | (exact fun i hi=>by omega)
    | (apply ‹∀ res:List DV,_=_→_›;simp only [Bn];rw [if_pos (by omega)])
    | (apply ‹∀ res:List DV,_=_→_›;simp only [Bn];rw [if_neg (by omega),if_neg (Bc (Md (by assumption) (by assumption) (by omega) (by omega)) (by omega) (by omega))])
    | (apply ‹∀ res:List DV,_=_→_›;simp only [Bn];rw [if_neg (by omega),if_pos (Ba (by assumption) (by omega))])
    | (rw [Ag (by omega)];exact ⟨by assumption,Is (by assumption) (by assumption) (by omega) (by omega)⟩)
    | (exact Ye (by assumption) (by omega))
    | (rfl)
theorem Zb:Con TP k0 214 Ps:=Ad [] [(214000,0,some ⟨[9,10],[11,3],[],[kn,kn],[],fun ρ ds=>0≤ni ds 0∧ni ds 1=prv (ρ.d 0) (ni ds 0).toNat∧upto (Bx (ρ.d 0)) (ni ds 0),fun ρ ds=>(ρ.d 0).length-(ni ds 0).toNat,none⟩)] [] [] 3000 trivial trivial Go.Proofs.Tryz.func214 rfl rfl rfl rfl Iv (by kernel_rfl) Tk
end Go.Vc

namespace Go.Vc
open Classical
def Np (aa:List DV):List DV:=[vn (Bh (li aa 0))]
def My:ConT:=⟨[kl],[kn],fun aa=>LSh pairS (li aa 0),fun aa rs=>rs=Np aa⟩
def Gx:Prop:=∀ (l0:LL),let N0:=(Ct l0);Ob (LSh pairS l0)→∀ (R:List DV→Prop),Ob (∀ (res:List DV),res=[vn (Bh l0)]→R res)→∀ x2:Int,x2=l0.length→(x2>1024→Ob (R [vn 4]))∧(¬x2>1024→∀ x3:Int,x3=l0.length→Ob ((0:Int)≤(0:Int)∧upto N0 (0:Int))∧∀ (g4:NV) (x5:Int),Ob (0≤x5∧upto N0 x5)→(x5<x3→Ob (0≤x5∧x5<l0.length)∧Ob (Shp kP l0)∧∀ x6 x7,Ob (l0[x5.toNat]?=some [dn x6,dn x7])→(x6≥0→(x6≤2147483647→(x7≥0→(x7≤1048575→(x5>0→∀ x8:Int,x8=w64 (x5-1)→Ob (0≤x8∧x8<l0.length)∧Ob (Shp kP l0)∧∀ x9 x10,Ob (l0[x8.toNat]?=some [dn x9,dn x10])→(x9<x6→∀ x11:Int,x11=w64 (x5+1)→Ob (0≤x11∧upto N0 x11)∧Ob (l0.length-x11.toNat<l0.length-x5.toNat))∧(¬x9<x6→(x9=x6→(x10<x7→∀ x12:Int,x12=w64 (x5+1)→Ob (0≤x12∧upto N0 x12)∧Ob (l0.length-x12.toNat<l0.length-x5.toNat))∧(¬x10<x7→Ob (R [vn 8])))∧(¬x9=x6→Ob (R [vn 8]))))∧(¬x5>0→∀ x13:Int,x13=w64 (x5+1)→Ob (0≤x13∧upto N0 x13)∧Ob (l0.length-x13.toNat<l0.length-x5.toNat)))∧(¬x7≤1048575→Ob (R [vn 8])))∧(¬x7≥0→Ob (R [vn 8])))∧(¬x6≤2147483647→Ob (R [vn 8])))∧(¬x6≥0→Ob (R [vn 8])))∧(¬x5<x3→Ob (R [vn 0])))
theorem Pe:Gx:=by
  delta Gx
  simp only [Ac,and_imp,List.cons_append,List.nil_append,Ab,Af,Ai,Ah,Ak,rng64,rng32,true_and,and_true,List.cons.injEq,DV.c.injEq,DV.a.injEq,D.raw.injEq,D.fs.injEq,Value.bool.injEq,Value.int.injEq]
  repeat' first | assumption | exact DShs.tail (Aa (by assumption) (by assumption)) | exact shp32 (by assumption) | exact shp64 (by assumption) | exact shp2 (by assumption) | exact shpF (by assumption) | with_reducible intro _ | with_reducible apply And.intro
  all_goals (try (have e:=En ‹_=w64 (_-1)› (by omega) (by omega);subst e))
  all_goals (try (have e:=Ae ‹_=w64 (_+1)› (by omega) (by omega);subst e))
  all_goals first
    | assumption
    | omega
    | (exact fun i hi=>by omega)
    | (apply ‹∀ res:List DV,_=_→_›;simp only [Bh];rw [if_pos (by omega)])
    | (apply ‹∀ res:List DV,_=_→_›;simp only [Bh];rw [if_neg (by omega),if_neg (Bc (Oe (by assumption) (by omega)) (by omega) (by omega))])
    | (apply ‹∀ res:List DV,_=_→_›;simp only [Bh];rw [if_neg (by omega),if_neg (Bc (Od (by assumption) (by assumption) (by omega) (by omega)) (by omega) (by omega))])
    | (apply ‹∀ res:List DV,_=_→_›;simp only [Bh];rw [if_neg (by omega),if_pos (Ba (by assumption) (by omega))])
    | (rw [Ag (by omega)];exact ⟨by assumption,Le (by assumption) (by omega) (by omega)⟩)
    | (rw [Ag (by omega)];exact ⟨by assumption,Oc (by assumption) (by assumption) (by omega) (by omega)⟩)
theorem Uk:Con TP k0 215 My:=Ad [] [(215000,0,some ⟨[0,8,9],[10],[],[kn],[],fun ρ ds=>0≤ni ds 0∧upto (Ct (ρ.d 0)) (ni ds 0),fun ρ ds=>(ρ.d 0).length-(ni ds 0).toNat,none⟩)] [] [] 3000 trivial trivial Go.Proofs.Tryz.func215 rfl rfl rfl rfl Gx (by kernel_rfl) Pe
end Go.Vc

namespace Go.Vc
open Classical
def Nx (aa:List DV):List DV:=[vn (if Dg (ai aa 0) then 0 else 8)]
def Nh:ConT:=⟨[rkS clockS],[kn],fun aa=>DShs clockS (ai aa 0),fun aa rs=>rs=Nx aa⟩
def Hg:Prop:=∀ x0 x1 x2 x3 x4,let N0:=[dn x0,dn x1,dn x2,dn x3,dn x4];Ob (DShs clockS N0)→∀ (R:List DV→Prop),Ob (∀ (res:List DV),res=[vn (if Dg N0 then (0:Int) else (8:Int))]→R res)→(x0<1→Ob (R [vn 8]))∧(¬x0<1→(x0>64→Ob (R [vn 8]))∧(¬x0>64→(x2<0→Ob (R [vn 8]))∧(¬x2<0→(x2>x1→Ob (R [vn 8]))∧(¬x2>x1→(x1>2147483647→Ob (R [vn 8]))∧(¬x1>2147483647→(x3<0→Ob (R [vn 8]))∧(¬x3<0→(x3>65535→Ob (R [vn 8]))∧(¬x3>65535→(x4<0→Ob (R [vn 8]))∧(¬x4<0→(x4>65536→Ob (R [vn 8]))∧(¬x4>65536→∀ x6:Int,x6=w64 (x1-x2)→(x6≥x0→(x3≠65535→Ob (R [vn 8]))∧(¬x3≠65535→Ob (R [vn 0])))∧(¬x6≥x0→Ob (R [vn 0])))))))))))
theorem Po:Hg:=by
  delta Hg
  simp only [Ac,and_imp,List.cons_append,List.nil_append,Ab,Af,Ai,Ah,Ak,rng64,rng32,true_and,and_true,List.cons.injEq,DV.c.injEq,DV.a.injEq,D.raw.injEq,D.fs.injEq,Value.bool.injEq,Value.int.injEq]
  repeat' first | assumption | exact DShs.tail (Aa (by assumption) (by assumption)) | exact shp32 (by assumption) | exact shp64 (by assumption) | exact shp2 (by assumption) | exact shpF (by assumption) | with_reducible intro _ | with_reducible apply And.intro
  all_goals (try (have e:=Fk ‹_=w64 (_-_)› (by omega) (by omega);subst e))
  all_goals first
    | assumption
    | omega
    | (apply ‹∀ res:List DV,_=_→_›;simp [Dg,gI];try omega)
theorem Us:Con TP k0 109 Nh:=Ad [] [] [] [] 3000 trivial trivial Go.Proofs.Tryz.func109 rfl rfl rfl rfl Hg (by kernel_rfl) Po
end Go.Vc

namespace Go.Vc
open Classical
def Anu (aa:List DV):List DV:=[vb (decide (li aa 0=li aa 1))]
def Alk:ConT:=⟨[kl,kl],[kb],fun aa=>LSh [s32] (li aa 0)∧LSh [s32] (li aa 1),fun aa rs=>rs=Anu aa⟩
def Apl:Prop:=∀ (l0 l1:LL),Ob (LSh [s32] l0∧LSh [s32] l1)→∀ (R:List DV→Prop),Ob (∀ (res:List DV),res=[vb (decide (l0=l1))]→R res)→∀ x3:Int,x3=l0.length→∀ x4:Int,x4=l1.length→(x3≠x4→Ob (R [vb false]))∧(¬x3≠x4→∀ x5:Int,x5=l0.length→Ob ((0:Int)≤(0:Int)∧l0.length=l1.length∧(0:Int)≤(l0.length:Int)∧List.take (Int.toNat (0:Int)) l0=List.take (Int.toNat (0:Int)) l1)∧∀ (g6:NV) (x7:Int),Ob (0≤x7∧l0.length=l1.length∧x7≤l0.length∧List.take (x7.toNat) l0=List.take (x7.toNat) l1)→(x7<x5→Ob (0≤x7∧x7<l0.length)∧Ob (Shp kU l0)∧∀ x8,Ob (l0[x7.toNat]?=some [d32 x8])→Ob (0≤x7∧x7<l1.length)∧Ob (Shp kU l1)∧∀ x9,Ob (l1[x7.toNat]?=some [d32 x9])→(x8≠x9→Ob (R [vb false]))∧(¬x8≠x9→∀ x10:Int,x10=w64 (x7+1)→Ob (0≤x10∧l0.length=l1.length∧x10≤l0.length∧List.take (x10.toNat) l0=List.take (x10.toNat) l1)∧Ob (l0.length-x10.toNat<l0.length-x7.toNat)))∧(¬x7<x5→Ob (R [vb true])))
theorem Akq:Apl:=by
  delta Apl
  simp only [Ac,and_imp,List.cons_append,List.nil_append,Ab,Af,Ai,Ah,Ak,rng64,rng32,true_and,and_true,List.cons.injEq,DV.c.injEq,DV.a.injEq,D.raw.injEq,D.fs.injEq,Value.bool.injEq,Value.int.injEq]
  repeat' first | assumption | exact DShs.tail (Aa (by assumption) (by assumption)) | exact shp32 (by assumption) | exact shp64 (by assumption) | exact shp2 (by assumption) | exact shpF (by assumption) | with_reducible intro _ | with_reducible apply And.intro
  all_goals (try (have e:=Ae ‹_=w64 (_+1)› (by omega) (by omega);subst e))
  all_goals first
    | omega
    | (apply ‹∀ res:List DV,_=_→_›;simp;grind [El,Dc])
    | (rw [Ao (by omega) (by assumption),Ao (by omega) (by assumption)];grind)
    | grind
theorem Aho:Con TP k0 106 Alk:=Ad [] [(106000,0,some ⟨[1,0,12],[13],[],[kn],[],fun ρ ds=>0≤ni ds 0∧(ρ.d 0).length=(ρ.d 1).length∧ni ds 0≤(ρ.d 0).length∧(ρ.d 0).take (ni ds 0).toNat=(ρ.d 1).take (ni ds 0).toNat,fun ρ ds=>(ρ.d 0).length-(ni ds 0).toNat,none⟩)] [] [] 3000 trivial trivial Go.Proofs.Tryz.func106 rfl rfl rfl rfl Apl (by kernel_rfl) Akq
end Go.Vc

namespace Go.Vc
open Classical
def Wh (aa:List DV):List DV:=[vb (decide (li aa 0=li aa 1))]
def Vf:ConT:=⟨[kl,kl],[kb],fun aa=>LSh [s32] (li aa 0)∧LSh [s32] (li aa 1),fun aa rs=>rs=Wh aa⟩
def Mr:Prop:=∀ (l0 l1:LL),Ob (LSh [s32] l0∧LSh [s32] l1)→∀ (R:List DV→Prop),Ob (∀ (res:List DV),res=[vb (decide (l0=l1))]→R res)→Ob (LSh [s32] l0∧LSh [s32] l1)∧∀ b3,Ob ([vb b3]=[vb (decide (l0=l1))])→Ob (R [vb b3])
theorem Xi:Mr:=by
  delta Mr
  simp only [Ac,and_imp,List.cons_append,List.nil_append,Ab,Af,Ai,Ah,Ak,rng64,rng32,true_and,and_true,List.cons.injEq,DV.c.injEq,DV.a.injEq,D.raw.injEq,D.fs.injEq,Value.bool.injEq,Value.int.injEq]
  repeat' first | assumption | exact DShs.tail (Aa (by assumption) (by assumption)) | exact shp32 (by assumption) | exact shp64 (by assumption) | exact shp2 (by assumption) | exact shpF (by assumption) | with_reducible intro _ | with_reducible apply And.intro
  all_goals first
    | assumption
    | omega
    | (apply ‹∀ res:List DV,_=_→_›;simp_all)
    | grind
theorem Acx:Con TP k0 138 Vf:=Ad [(106,Alk)] [] [] [(106,Anu)] 3000 ⟨Aho,trivial⟩ ⟨fnq rfl rfl,trivial⟩ Go.Proofs.Tryz.func138 rfl rfl rfl rfl Mr (by kernel_rfl) Xi
end Go.Vc

namespace Go.Vc
open Classical
def Ahm (aa:List DV):List DV:=[vb (decide (ai aa 0=ai aa 1))]
def Agd:ConT:=⟨[rkS dyS,rkS dyS],[kb],fun aa=>DShs dyS (ai aa 0)∧DShs dyS (ai aa 1),fun aa rs=>rs=Ahm aa⟩
def Aak:Prop:=∀ b0 l1 x2 b3 l4 x5,Ob (DShs dyS [db b0,D.fs l1,dn x2]∧DShs dyS [db b3,D.fs l4,dn x5])→∀ (R:List DV→Prop),Ob (∀ (res:List DV),res=[vb (decide ([db b0,D.fs l1,dn x2]=[db b3,D.fs l4,dn x5]))]→R res)→(b0=b3→(x2=x5→Ob (LSh [s32] l1∧LSh [s32] l4)∧∀ b7,Ob ([vb b7]=[vb (decide (l1=l4))])→Ob (R [vb b7]))∧(¬x2=x5→Ob (R [vb false])))∧(¬b0=b3→Ob (R [vb false]))
theorem Adi:Aak:=by
  delta Aak
  simp only [Ac,and_imp,List.cons_append,List.nil_append,Ab,Af,Ai,Ah,Ak,rng64,rng32,true_and,and_true,List.cons.injEq,DV.c.injEq,DV.a.injEq,D.raw.injEq,D.fs.injEq,Value.bool.injEq,Value.int.injEq]
  repeat' first | assumption | exact DShs.tail (Aa (by assumption) (by assumption)) | exact shp32 (by assumption) | exact shp64 (by assumption) | exact shp2 (by assumption) | exact shpF (by assumption) | with_reducible intro _ | with_reducible apply And.intro
  all_goals first
    | assumption
    | omega
    | (apply ‹∀ res:List DV,_=_→_›;simp_all)
    | grind
theorem Ajv:Con TP k0 44 Agd:=Ad [(138,Vf)] [] [] [(138,Wh)] 3000 ⟨Acx,trivial⟩ ⟨fnq rfl rfl,trivial⟩ Go.Proofs.Tryz.func44 rfl rfl rfl rfl Aak (by kernel_rfl) Adi
end Go.Vc
